/- Plain Lean: what the laws of this program's functions come to, in numbers and lists; no program is run here. -/
import Derived.Test.YtkgoflpkdcdajaaGreatPP28j
set_option linter.unusedVariables false
set_option linter.unusedSimpArgs false
set_option maxRecDepth 100000
namespace Go.Ab
open Go Go.IntWalk
/-
  Attitudes stay one; places move by speed times time; what falls freely does not get faster aside. It names no program.
-/
theorem in_prod2 {a b A B : Int} (ha : In a A) (hb : In (2 * b) B) : In (2 * (a * b)) (A * B) := by
  have := in_mul ha hb
  rw [show a * (2 * b) = 2 * (a * b) by grind] at this
  exact this
theorem unit_len {q : Qua} {N : Int} (hN : N = rootV (sq4 q)) (h0 : 2147483648 ≤ N) (hq : QIn q N) (hb : QIn q 17179869184) : 4294967280 ≤ lenV (sq4 (quV q)) ∧ lenV (sq4 (quV q)) ≤ 4294967312 := by
  obtain ⟨h1, h2, h3, h4, h5, h6, -⟩ := len4_in hb
  rw [← hN] at h2 h3 h4 h5 h6
  have hu := (qu_in hb).2
  have D := fun {a : Int} (ha : In a N) => (div_in (K := 4294967296) ha (b := N) (by omega) (by rw [Int.mul_comm]; exact Int.le_refl _) (by decide)).2.2
  have key : ∃ a b c d : Int, quV q = (a, b, c, d, ()) ∧ a = rnd (q.1 * 4294967296) N ∧ b = rnd (q.2.1 * 4294967296) N ∧ c = rnd (q.2.2.1 * 4294967296) N ∧ d = rnd (q.2.2.2.1 * 4294967296) N := by
    refine ⟨_, _, _, _, ?_, rfl, rfl, rfl, rfl⟩
    unfold quV quN
    rw [h2, if_neg (by omega), D hq.1, D hq.2.1, D hq.2.2.1, D hq.2.2.2]
  obtain ⟨a, b, c, d, e, ea, eb, ec, ed⟩ := key
  have near := fun (x : Int) => rnd_near (x * 4294967296) (d := N) (by omega)
  have na := near q.1; have nb := near q.2.1; have nc := near q.2.2.1; have nd := near q.2.2.2.1
  rw [← ea] at na; rw [← eb] at nb; rw [← ec] at nc; rw [← ed] at nd
  have eS : sq4 q = q.1 * q.1 + (q.2.1 * q.2.1 + (q.2.2.1 * q.2.2.1 + (q.2.2.2.1 * q.2.2.2.1 + 0))) := rfl
  rw [e] at hu ⊢
  have eU : sq4 (a, b, c, d, ()) = a * a + (b * b + (c * c + (d * d + 0))) := rfl
  clear hb D near ea eb ec ed h1 h2 e hN
  generalize sq4 q = S at *
  obtain ⟨w, x, y, z, _⟩ := q
  obtain ⟨iw, ix, iy, iz⟩ := hq
  simp only at iw ix iy iz eS na nb nc nd
  obtain ⟨r0, g0⟩ : ∃ r, r = w * 4294967296 - a * N := ⟨_, rfl⟩
  obtain ⟨r1, g1⟩ : ∃ r, r = x * 4294967296 - b * N := ⟨_, rfl⟩
  obtain ⟨r2, g2⟩ : ∃ r, r = y * 4294967296 - c * N := ⟨_, rfl⟩
  obtain ⟨r3, g3⟩ : ∃ r, r = z * 4294967296 - d * N := ⟨_, rfl⟩
  rw [← g0] at na; rw [← g1] at nb; rw [← g2] at nc; rw [← g3] at nd
  have i0 : In (2 * r0) N := by unfold In; omega
  have i1 : In (2 * r1) N := by unfold In; omega
  have i2 : In (2 * r2) N := by unfold In; omega
  have i3 : In (2 * r3) N := by unfold In; omega
  have p0 := in_prod2 iw i0; have p1 := in_prod2 ix i1; have p2 := in_prod2 iy i2; have p3 := in_prod2 iz i3
  have s0 := in_mul i0 i0; have s1 := in_mul i1 i1; have s2 := in_mul i2 i2; have s3 := in_mul i3 i3
  have t0 := sq_nonneg r0; have t1 := sq_nonneg r1; have t2 := sq_nonneg r2; have t3 := sq_nonneg r3
  rw [show 2 * r0 * (2 * r0) = 4 * (r0 * r0) by grind] at s0
  rw [show 2 * r1 * (2 * r1) = 4 * (r1 * r1) by grind] at s1
  rw [show 2 * r2 * (2 * r2) = 4 * (r2 * r2) by grind] at s2
  rw [show 2 * r3 * (2 * r3) = 4 * (r3 * r3) by grind] at s3
  have id0 : (N * N) * (a * a) = 18446744073709551616 * (w * w) - 4294967296 * (2 * (w * r0)) + r0 * r0 := by subst g0; grind
  have id1 : (N * N) * (b * b) = 18446744073709551616 * (x * x) - 4294967296 * (2 * (x * r1)) + r1 * r1 := by subst g1; grind
  have id2 : (N * N) * (c * c) = 18446744073709551616 * (y * y) - 4294967296 * (2 * (y * r2)) + r2 * r2 := by subst g2; grind
  have id3 : (N * N) * (d * d) = 18446744073709551616 * (z * z) - 4294967296 * (2 * (z * r3)) + r3 * r3 := by subst g3; grind
  have hS2 : S ≤ N * N + 2 * N := by
    have : (N + 1) * (N + 1) = N * N + 2 * N + 1 := by grind
    omega
  have hNN : 2147483648 * N ≤ N * N := Int.mul_le_mul_of_nonneg_right h0 (by omega)
  obtain ⟨U, hU⟩ : ∃ U, U = sq4 (a, b, c, d, ()) := ⟨_, rfl⟩
  have idU : (N * N) * U = (N * N) * (a * a) + ((N * N) * (b * b) + ((N * N) * (c * c) + (N * N) * (d * d))) := by rw [hU, eU]; grind
  have hn := sq4_nn (a, b, c, d, ())
  rw [← hU] at hn ⊢
  clear eU g0 g1 g2 g3 i0 i1 i2 i3 iw ix iy iz na nb nc nd
  obtain ⟨M, hM⟩ : ∃ M, M = N * N := ⟨_, rfl⟩
  rw [← hM] at id0 id1 id2 id3 idU hS2 hNN p0 p1 p2 p3 s0 s1 s2 s3 h4
  unfold In at p0 p1 p2 p3 s0 s1 s2 s3
  generalize w * w = ww at *
  generalize x * x = xx at *
  generalize y * y = yy at *
  generalize z * z = zz at *
  generalize w * r0 = q0 at *
  generalize x * r1 = q1 at *
  generalize y * r2 = q2 at *
  generalize z * r3 = q3 at *
  generalize r0 * r0 = v0 at *
  generalize r1 * r1 = v1 at *
  generalize r2 * r2 = v2 at *
  generalize r3 * r3 = v3 at *
  have hMpos : 0 < M := by omega
  have lo : M * 18446744056529682432 ≤ M * U := by rw [idU, id0, id1, id2, id3]; omega
  have hi : M * U ≤ M * 18446744108069289985 := by rw [idU, id0, id1, id2, id3]; omega
  have lo := Int.le_of_mul_le_mul_left lo hMpos
  have hi := Int.le_of_mul_le_mul_left hi hMpos
  obtain ⟨k1, k2, k3, k4, k5, k6⟩ := len_in hn (by omega)
  rw [k2]
  generalize rootV U = R at *
  constructor
  · apply Int.not_lt.1
    intro hl
    have : (R + 1) * (R + 1) ≤ 4294967280 * 4294967280 := Int.mul_le_mul (by omega) (by omega) (by omega) (by decide)
    omega
  · apply Int.not_lt.1
    intro hl
    have : (4294967313 : Int) * 4294967313 ≤ R * R := Int.mul_le_mul (by omega) (by omega) (by decide) (by omega)
    omega
theorem mul_near {a b A B K : Int} (ha : In a A) (hb : In b B) (hK : A * B ≤ K * 4294967296) (hk : K ≤ 9223372036854775807) : In (4294967296 * mv a b - a * b) 2147483648 := by
  rw [(mul_in ha hb hK hk).2.2]
  have := rnd_near (a * b) (d := 4294967296) (by decide)
  unfold mulV In; omega
theorem hf_near {M m t : Int} (hM : In M 549755815936) (hm : In (4294967296 * M - m) 8589934592) (ht : In t 71582788) : In (36893488147419103232 * hfV M t - m * t) 36893488147419103232 := by
  obtain ⟨a1, a2, -⟩ := mul_in (K := 9163000000) hM ht (by decide) (by decide)
  have n1 := mul_near (K := 9163000000) hM ht (by decide) (by decide)
  have h2 : In 2147483648 2147483648 := by unfold In; omega
  have n2 := mul_near (K := 4581500000) a2 h2 (by decide) (by decide)
  have n3 := in_mul hm ht
  unfold hfV
  generalize mv (mv M t) 2147483648 = d at *
  generalize mv M t = A at *
  rw [show (4294967296 * M - m) * t = 4294967296 * (M * t) - m * t by grind] at n3
  generalize M * t = p at *
  generalize m * t = r at *
  unfold In at *
  omega
theorem qn_len {q : Qua} {w : Vec} {t : Int} (hq : QIn q 4294967312) (hl : 4294967280 ≤ rootV (sq4 q)) (hw : VIn w 137438953472) (ht : In t 71582788) : 2147483648 ≤ rootV (sq4 (qnV q w t)) := by
  obtain ⟨m1, m2⟩ := qm_in hq hw
  obtain ⟨w0, x, y, z, _⟩ := q
  obtain ⟨a, b, c, _⟩ := w
  obtain ⟨r0, r1, r2⟩ := rootV_is (sq4_nn (w0, x, y, z, ()))
  have hS : (4294967280 : Int) * 4294967280 ≤ rootV (sq4 (w0, x, y, z, ())) * rootV (sq4 (w0, x, y, z, ())) := Int.mul_le_mul hl hl (by decide) r0
  have eS : sq4 (w0, x, y, z, ()) = w0 * w0 + (x * x + (y * y + (z * z + 0))) := rfl
  have hlow := Int.le_trans hS r1
  clear r1 r2 hS r0 hl
  obtain ⟨iw, ix, iy, iz⟩ := hq
  obtain ⟨ia, ib, ic⟩ := hw
  simp only at iw ix iy iz ia ib ic
  have hz : In (0 : Int) 137438953472 := in_zero (by decide)
  have P := fun {a b : Int} (ha : In a 4294967312) (hb : In b 137438953472) => mul_in (K := 137438953984) ha hb (by decide) (by decide)
  have N := fun {a b : Int} (ha : In a 4294967312) (hb : In b 137438953472) => mul_near (K := 137438953984) ha hb (by decide) (by decide)
  have A2 := fun {a b : Int} (ha : In a 137438953984) (hb : In b 137438953984) => add_in (K := 274877907968) ha hb (by decide) (by decide)
  have Z2 := fun {a b : Int} (ha : In a 137438953984) (hb : In b 137438953984) => sub_in (K := 274877907968) ha hb (by decide) (by decide)
  have A3 := fun {a b : Int} (ha : In a 274877907968) (hb : In b 137438953984) => add_in (K := 412316861952) ha hb (by decide) (by decide)
  have Z3 := fun {a b : Int} (ha : In a 274877907968) (hb : In b 137438953984) => sub_in (K := 412316861952) ha hb (by decide) (by decide)
  have A4 := fun {a b : Int} (ha : In a 412316861952) (hb : In b 137438953984) => add_in (K := 549755815936) ha hb (by decide) (by decide)
  have Z4 := fun {a b : Int} (ha : In a 412316861952) (hb : In b 137438953984) => sub_in (K := 549755815936) ha hb (by decide) (by decide)
  have k0 : In (4294967296 * q0V (w0, x, y, z, ()) (0, (a, b, c, ())) - (w0 * 0 - x * a - y * b - z * c)) 8589934592 := by
    unfold q0V
    have x1 := P iw hz; have x2 := P ix ia; have x3 := P iy ib; have x4 := P iz ic
    have y1 := Z2 x1.2.1 x2.2.1; have y2 := Z3 y1.2.1 x3.2.1; have y3 := Z4 y2.2.1 x4.2.1
    have n1 := N iw hz; have n2 := N ix ia; have n3 := N iy ib; have n4 := N iz ic
    rw [y3.2.2, y2.2.2, y1.2.2]
    unfold In at *; omega
  have k1 : In (4294967296 * q1V (w0, x, y, z, ()) (0, (a, b, c, ())) - (w0 * a + x * 0 + y * c - z * b)) 8589934592 := by
    unfold q1V
    have x1 := P iw ia; have x2 := P ix hz; have x3 := P iy ic; have x4 := P iz ib
    have y1 := A2 x1.2.1 x2.2.1; have y2 := A3 y1.2.1 x3.2.1; have y3 := Z4 y2.2.1 x4.2.1
    have n1 := N iw ia; have n2 := N ix hz; have n3 := N iy ic; have n4 := N iz ib
    rw [y3.2.2, y2.2.2, y1.2.2]
    unfold In at *; omega
  have k2 : In (4294967296 * q2V (w0, x, y, z, ()) (0, (a, b, c, ())) - (w0 * b - x * c + y * 0 + z * a)) 8589934592 := by
    unfold q2V
    have x1 := P iw ib; have x2 := P ix ic; have x3 := P iy hz; have x4 := P iz ia
    have y1 := Z2 x1.2.1 x2.2.1; have y2 := A3 y1.2.1 x3.2.1; have y3 := A4 y2.2.1 x4.2.1
    have n1 := N iw ib; have n2 := N ix ic; have n3 := N iy hz; have n4 := N iz ia
    rw [y3.2.2, y2.2.2, y1.2.2]
    unfold In at *; omega
  have k3 : In (4294967296 * q3V (w0, x, y, z, ()) (0, (a, b, c, ())) - (w0 * c + x * b - y * a + z * 0)) 8589934592 := by
    unfold q3V
    have x1 := P iw ic; have x2 := P ix ib; have x3 := P iy ia; have x4 := P iz hz
    have y1 := A2 x1.2.1 x2.2.1; have y2 := Z3 y1.2.1 x3.2.1; have y3 := A4 y2.2.1 x4.2.1
    have n1 := N iw ic; have n2 := N ix ib; have n3 := N iy ia; have n4 := N iz hz
    rw [y3.2.2, y2.2.2, y1.2.2]
    unfold In at *; omega
  obtain ⟨g0, g1, g2, g3⟩ := m2
  simp only [qmV] at g0 g1 g2 g3
  have d0 := hf_in g0 ht; have d1 := hf_in g1 ht; have d2 := hf_in g2 ht; have d3 := hf_in g3 ht
  have e0 := hf_near g0 k0 ht; have e1 := hf_near g1 k1 ht; have e2 := hf_near g2 k2 ht; have e3 := hf_near g3 k3 ht
  have hn := sq4_nn (qnV (w0, x, y, z, ()) (a, b, c, ()) t)
  have hs : sq4 (qnV (w0, x, y, z, ()) (a, b, c, ()) t) = (w0 + hfV (q0V (w0, x, y, z, ()) (0, (a, b, c, ()))) t) * (w0 + hfV (q0V (w0, x, y, z, ()) (0, (a, b, c, ()))) t) + ((x + hfV (q1V (w0, x, y, z, ()) (0, (a, b, c, ()))) t) * (x + hfV (q1V (w0, x, y, z, ()) (0, (a, b, c, ()))) t) + ((y + hfV (q2V (w0, x, y, z, ()) (0, (a, b, c, ()))) t) * (y + hfV (q2V (w0, x, y, z, ()) (0, (a, b, c, ()))) t) + ((z + hfV (q3V (w0, x, y, z, ()) (0, (a, b, c, ()))) t) * (z + hfV (q3V (w0, x, y, z, ()) (0, (a, b, c, ()))) t) + 0))) := by
    unfold sq4 qnV
    simp only [(add_in (K := 17179869184) iw d0.2 (by decide) (by decide)).2.2, (add_in (K := 17179869184) ix d1.2 (by decide) (by decide)).2.2, (add_in (K := 17179869184) iy d2.2 (by decide) (by decide)).2.2, (add_in (K := 17179869184) iz d3.2 (by decide) (by decide)).2.2]
  rw [eS] at hlow
  generalize sq4 (qnV (w0, x, y, z, ()) (a, b, c, ()) t) = S at *
  generalize hfV (q0V (w0, x, y, z, ()) (0, (a, b, c, ()))) t = D0 at *
  generalize hfV (q1V (w0, x, y, z, ()) (0, (a, b, c, ()))) t = D1 at *
  generalize hfV (q2V (w0, x, y, z, ()) (0, (a, b, c, ()))) t = D2 at *
  generalize hfV (q3V (w0, x, y, z, ()) (0, (a, b, c, ()))) t = D3 at *
  clear k0 k1 k2 k3 g0 g1 g2 g3 d0 d1 d2 d3 m1 P N A2 Z2 A3 Z3 A4 Z4
  obtain ⟨E0, h0⟩ : ∃ e, e = 36893488147419103232 * D0 - (w0 * 0 - x * a - y * b - z * c) * t := ⟨_, rfl⟩
  obtain ⟨E1, h1⟩ : ∃ e, e = 36893488147419103232 * D1 - (w0 * a + x * 0 + y * c - z * b) * t := ⟨_, rfl⟩
  obtain ⟨E2, h2⟩ : ∃ e, e = 36893488147419103232 * D2 - (w0 * b - x * c + y * 0 + z * a) * t := ⟨_, rfl⟩
  obtain ⟨E3, h3⟩ : ∃ e, e = 36893488147419103232 * D3 - (w0 * c + x * b - y * a + z * 0) * t := ⟨_, rfl⟩
  rw [← h0] at e0; rw [← h1] at e1; rw [← h2] at e2; rw [← h3] at e3
  have id : 36893488147419103232 * (w0 * D0 + x * D1 + y * D2 + z * D3) = w0 * E0 + x * E1 + y * E2 + z * E3 := by subst h0; subst h1; subst h2; subst h3; grind
  have b0 := in_mul iw e0; have b1 := in_mul ix e1; have b2 := in_mul iy e2; have b3 := in_mul iz e3
  have f0 := sq_nonneg D0; have f1 := sq_nonneg D1; have f2 := sq_nonneg D2; have f3 := sq_nonneg D3
  have hs2 : S = (w0 * w0 + (x * x + (y * y + (z * z + 0)))) + 2 * (w0 * D0 + x * D1 + y * D2 + z * D3) + (D0 * D0 + D1 * D1 + D2 * D2 + D3 * D3) := by rw [hs]; grind
  have hb : (4611686018427387904 : Int) ≤ S := by
    rw [hs2]
    unfold In at b0 b1 b2 b3
    generalize w0 * D0 + x * D1 + y * D2 + z * D3 = T at *
    generalize w0 * E0 = u0 at *
    generalize x * E1 = u1 at *
    generalize y * E2 = u2 at *
    generalize z * E3 = u3 at *
    generalize w0 * w0 = ww at *
    generalize x * x = xx at *
    generalize y * y = yy at *
    generalize z * z = zz at *
    omega
  obtain ⟨k0, k1, k2⟩ := rootV_is hn
  generalize rootV S = R at *
  apply Int.not_lt.1
  intro hlt
  have : (R + 1) * (R + 1) ≤ 2147483648 * 2147483648 := Int.mul_le_mul (by omega) (by omega) (by omega) (by decide)
  omega
theorem qs_len {q : Qua} {w : Vec} {t : Int} (hq : QIn q 4294967312) (hl : 4294967280 ≤ rootV (sq4 q)) (hw : VIn w 137438953472) (ht : In t 71582788) : 4294967280 ≤ lenV (sq4 (qsV q w t)) ∧ lenV (sq4 (qsV q w t)) ≤ 4294967312 := by
  have h1 := qn_len hq hl hw ht
  have h2 := (qn_in hq hw ht).2
  exact unit_len rfl h1 (len4_in h2).2.2.2.2.2.2 h2
end Go.Ab
