/- Plain Lean: what the laws of this program's functions come to, in numbers and lists; no program is run here. -/
import Derived.Test.YtkgoflpkdcdajaaGreatPP28v
set_option linter.unusedVariables false
set_option linter.unusedSimpArgs false
set_option maxRecDepth 100000
namespace Go.Ab
open Go Go.IntWalk
/-
  What fits: bounds of numbers, vectors, quaternions and of a body's step. It names no program.
-/
def In (a K : Int) : Prop := -K ≤ a ∧ a ≤ K
theorem In.le {a K L : Int} (h : In a K) (hl : K ≤ L) : In a L := by unfold In at *; omega
theorem In.nn {a K : Int} (h : In a K) : 0 ≤ K := by unfold In at h; omega
theorem In.i64 {a K : Int} (h : In a K) (hk : K ≤ 9223372036854775807) : I64 a := by unfold In at h; unfold I64; omega
theorem in_zero {K : Int} (h : 0 ≤ K) : In 0 K := by unfold In; omega
theorem mul_up {a b A B : Int} (ha : In a A) (hb : In b B) : a * b ≤ A * B := by
  have hA := ha.nn; have hB := hb.nn
  unfold In at ha hb
  rcases Int.le_total 0 a with h | h
  · rcases Int.le_total 0 b with k | k
    · exact Int.mul_le_mul (by omega) (by omega) k hA
    · exact Int.le_trans (Int.mul_nonpos_of_nonneg_of_nonpos h k) (Int.mul_nonneg hA hB)
  · rcases Int.le_total 0 b with k | k
    · exact Int.le_trans (Int.mul_nonpos_of_nonpos_of_nonneg h k) (Int.mul_nonneg hA hB)
    · have h1 : (-a) * (-b) ≤ A * B := Int.mul_le_mul (by omega) (by omega) (by omega) hA
      rw [Int.neg_mul_neg] at h1; exact h1
theorem in_mul {a b A B : Int} (ha : In a A) (hb : In b B) : In (a * b) (A * B) := by
  have h1 := mul_up ha hb
  have h2 := mul_up (a := -a) (by unfold In at *; omega : In (-a) A) hb
  rw [Int.neg_mul] at h2
  unfold In; omega
theorem in_rnd {n d K : Int} (hd : 0 < d) (h : In n (K * d)) : In (rnd n d) K := by
  unfold In at *
  refine ⟨le_rnd hd ?_, rnd_le hd h.2⟩
  rw [Int.neg_mul]; exact h.1
theorem mul_in {a b A B K : Int} (ha : In a A) (hb : In b B) (hK : A * B ≤ K * 4294967296) (hk : K ≤ 9223372036854775807) : mo a b = false ∧ In (mv a b) K ∧ mv a b = mulV a b := by
  have h : In (mulV a b) K := in_rnd (by decide) ((in_mul ha hb).le hK)
  unfold mo mv
  rw [sv_in (h.i64 hk), ov_in (h.i64 hk)]
  exact ⟨rfl, h, rfl⟩
theorem add_in {a b A B K : Int} (ha : In a A) (hb : In b B) (hK : A + B ≤ K) (hk : K ≤ 9223372036854775807) : ao a b = false ∧ In (av a b) K ∧ av a b = a + b := by
  have h : In (a + b) K := by unfold In at *; omega
  unfold ao av
  rw [sv_in (h.i64 hk), ov_in (h.i64 hk)]
  exact ⟨rfl, h, rfl⟩
theorem sub_in {a b A B K : Int} (ha : In a A) (hb : In b B) (hK : A + B ≤ K) (hk : K ≤ 9223372036854775807) : so a b = false ∧ In (zv a b) K ∧ zv a b = a - b := by
  have h : In (a - b) K := by unfold In at *; omega
  unfold so zv
  rw [sv_in (h.i64 hk), ov_in (h.i64 hk)]
  exact ⟨rfl, h, rfl⟩
theorem div_in {a b A K : Int} (ha : In a A) (hb : 0 < b) (hK : A * 4294967296 ≤ K * b) (hk : K ≤ 9223372036854775807) : dO a b = false ∧ In (dv a b) K ∧ dv a b = rnd (a * 4294967296) b := by
  have h : In (rnd (a * 4294967296) b) K := in_rnd hb (by
    have : In (a * 4294967296) (A * 4294967296) := by unfold In at *; omega
    exact this.le hK)
  unfold dO dv divV
  rw [if_neg (by omega), if_neg (by omega), if_neg (by omega), sv_in (h.i64 hk), ov_in (h.i64 hk)]
  exact ⟨rfl, h, rfl⟩
def VIn (v : Vec) (K : Int) : Prop := In v.1 K ∧ In v.2.1 K ∧ In v.2.2.1 K
theorem VIn.le {v : Vec} {K L : Int} (h : VIn v K) (hl : K ≤ L) : VIn v L := ⟨h.1.le hl, h.2.1.le hl, h.2.2.le hl⟩
theorem vin_zero {K : Int} (h : 0 ≤ K) : VIn (0, 0, 0, ()) K := ⟨in_zero h, in_zero h, in_zero h⟩
theorem vm_in {v : Vec} {s A B K : Int} (hv : VIn v A) (hs : In s B) (hK : A * B ≤ K * 4294967296) (hk : K ≤ 9223372036854775807) : vmO v s = false ∧ VIn (vmV v s) K := by
  obtain ⟨a1, a2, -⟩ := mul_in hv.1 hs hK hk
  obtain ⟨b1, b2, -⟩ := mul_in hv.2.1 hs hK hk
  obtain ⟨c1, c2, -⟩ := mul_in hv.2.2 hs hK hk
  unfold vmO; rw [a1, b1, c1]
  exact ⟨rfl, a2, b2, c2⟩
theorem vd_in {v : Vec} {s A K : Int} (hv : VIn v A) (hs : 0 < s) (hK : A * 4294967296 ≤ K * s) (hk : K ≤ 9223372036854775807) : vdO v s = false ∧ VIn (vdV v s) K := by
  obtain ⟨a1, a2, -⟩ := div_in hv.1 hs hK hk
  obtain ⟨b1, b2, -⟩ := div_in hv.2.1 hs hK hk
  obtain ⟨c1, c2, -⟩ := div_in hv.2.2 hs hK hk
  unfold vdO; rw [a1, b1, c1]
  exact ⟨rfl, a2, b2, c2⟩
theorem va_in {v w : Vec} {A B K : Int} (hv : VIn v A) (hw : VIn w B) (hK : A + B ≤ K) (hk : K ≤ 9223372036854775807) : vaO v w = false ∧ VIn (vaV v w) K := by
  obtain ⟨a1, a2, -⟩ := add_in hv.1 hw.1 hK hk
  obtain ⟨b1, b2, -⟩ := add_in hv.2.1 hw.2.1 hK hk
  obtain ⟨c1, c2, -⟩ := add_in hv.2.2 hw.2.2 hK hk
  unfold vaO; rw [a1, b1, c1]
  exact ⟨rfl, a2, b2, c2⟩
theorem vs_in {v w : Vec} {A B K : Int} (hv : VIn v A) (hw : VIn w B) (hK : A + B ≤ K) (hk : K ≤ 9223372036854775807) : vsO v w = false ∧ VIn (vsV v w) K := by
  obtain ⟨a1, a2, -⟩ := sub_in hv.1 hw.1 hK hk
  obtain ⟨b1, b2, -⟩ := sub_in hv.2.1 hw.2.1 hK hk
  obtain ⟨c1, c2, -⟩ := sub_in hv.2.2 hw.2.2 hK hk
  unfold vsO; rw [a1, b1, c1]
  exact ⟨rfl, a2, b2, c2⟩
theorem vc_in {v w : Vec} {A B K : Int} (hv : VIn v A) (hw : VIn w B) (hK : A * B ≤ K * 4294967296) (hk : K + K ≤ 9223372036854775807) : vcO v w = false ∧ VIn (vcV v w) (K + K) := by
  have hA := hv.1.nn; have hB := hw.1.nn
  have hk0 : K ≤ 9223372036854775807 := by
    have := Int.mul_nonneg hA hB
    omega
  obtain ⟨a1, a2, -⟩ := mul_in hv.2.1 hw.2.2 hK hk0
  obtain ⟨b1, b2, -⟩ := mul_in hv.2.2 hw.1 hK hk0
  obtain ⟨c1, c2, -⟩ := mul_in hv.1 hw.2.1 hK hk0
  obtain ⟨d1, d2, -⟩ := mul_in hv.2.2 hw.2.1 hK hk0
  obtain ⟨e1, e2, -⟩ := mul_in hv.1 hw.2.2 hK hk0
  obtain ⟨f1, f2, -⟩ := mul_in hv.2.1 hw.1 hK hk0
  have hL : VIn (vcL v w) K := ⟨a2, b2, c2⟩
  have hR : VIn (vcR v w) K := ⟨d2, e2, f2⟩
  obtain ⟨g1, g2⟩ := vs_in hL hR (Int.le_refl _) hk
  unfold vcO; rw [a1, b1, c1, d1, e1, f1, g1]
  exact ⟨rfl, g2⟩
theorem cl_in {x c : Int} (hc : 0 ≤ c ∧ c ≤ 9223372036854775807) : In (clV x (IntKind.i64.wrap (0 - c)) c) c := by
  rw [IntKind.wrap_i64]
  unfold clV In
  split <;> (try split) <;> omega
theorem cl_id {x c : Int} (hc : 0 ≤ c ∧ c ≤ 9223372036854775807) : clV x (IntKind.i64.wrap (0 - c)) c = x ↔ In x c := by
  rw [IntKind.wrap_i64]
  unfold clV In
  split <;> (try split) <;> omega
theorem vk_in {v : Vec} {c : Int} (hc : 0 ≤ c ∧ c ≤ 9223372036854775807) : VIn (vkV v c) c := ⟨cl_in hc, cl_in hc, cl_in hc⟩
theorem dg_in {a b : Int} (ha : In a 4294967312) (hb : In b 4294967312) : dgO a b = false ∧ In (dgV a b) 34359738368 := by
  obtain ⟨a1, a2, -⟩ := mul_in (K := 4294967329) ha ha (by decide) (by decide)
  obtain ⟨b1, b2, -⟩ := mul_in (K := 4294967329) hb hb (by decide) (by decide)
  obtain ⟨c1, c2, -⟩ := add_in (K := 8589934658) a2 b2 (by decide) (by decide)
  obtain ⟨d1, d2, -⟩ := add_in (K := 17179869316) c2 c2 (by decide) (by decide)
  have h1 : In 4294967296 4294967296 := by unfold In; omega
  obtain ⟨e1, e2, -⟩ := sub_in (K := 34359738368) h1 d2 (by decide) (by decide)
  unfold dgO dgV; rw [a1, b1, c1, d1, e1]
  exact ⟨rfl, e2⟩
theorem up_in {a b c d : Int} (ha : In a 4294967312) (hb : In b 4294967312) (hc : In c 4294967312) (hd : In d 4294967312) : upO a b c d = false ∧ In (upV a b c d) 34359738368 := by
  obtain ⟨a1, a2, -⟩ := mul_in (K := 4294967329) ha hb (by decide) (by decide)
  obtain ⟨b1, b2, -⟩ := mul_in (K := 4294967329) hc hd (by decide) (by decide)
  obtain ⟨c1, c2, -⟩ := add_in (K := 8589934658) a2 b2 (by decide) (by decide)
  obtain ⟨d1, d2, -⟩ := add_in (K := 34359738368) c2 c2 (by decide) (by decide)
  unfold upO upV; rw [a1, b1, c1, d1]
  exact ⟨rfl, d2⟩
theorem dn_in {a b c d : Int} (ha : In a 4294967312) (hb : In b 4294967312) (hc : In c 4294967312) (hd : In d 4294967312) : dnO a b c d = false ∧ In (dnV a b c d) 34359738368 := by
  obtain ⟨a1, a2, -⟩ := mul_in (K := 4294967329) ha hb (by decide) (by decide)
  obtain ⟨b1, b2, -⟩ := mul_in (K := 4294967329) hc hd (by decide) (by decide)
  obtain ⟨c1, c2, -⟩ := sub_in (K := 8589934658) a2 b2 (by decide) (by decide)
  obtain ⟨d1, d2, -⟩ := add_in (K := 34359738368) c2 c2 (by decide) (by decide)
  unfold dnO dnV; rw [a1, b1, c1, d1]
  exact ⟨rfl, d2⟩
def QIn (q : Qua) (K : Int) : Prop := In q.1 K ∧ In q.2.1 K ∧ In q.2.2.1 K ∧ In q.2.2.2.1 K
theorem mx_in {q : Qua} (h : QIn q 4294967312) : mxO q = false ∧ VIn (mxV q).1 34359738368 ∧ VIn (mxV q).2.1 34359738368 ∧ VIn (mxV q).2.2.1 34359738368 := by
  obtain ⟨h1, h2, h3, h4⟩ := h
  obtain ⟨a1, a2⟩ := dg_in h3 h4
  obtain ⟨b1, b2⟩ := dn_in h2 h3 h1 h4
  obtain ⟨c1, c2⟩ := up_in h2 h4 h1 h3
  obtain ⟨d1, d2⟩ := up_in h2 h3 h1 h4
  obtain ⟨e1, e2⟩ := dg_in h2 h4
  obtain ⟨f1, f2⟩ := dn_in h3 h4 h1 h2
  obtain ⟨g1, g2⟩ := dn_in h2 h4 h1 h3
  obtain ⟨i1, i2⟩ := up_in h3 h4 h1 h2
  obtain ⟨j1, j2⟩ := dg_in h2 h3
  unfold mxO; rw [a1, b1, c1, d1, e1, f1, g1, i1, j1]
  exact ⟨rfl, ⟨a2, b2, c2⟩, ⟨d2, e2, f2⟩, ⟨g2, i2, j2⟩⟩
theorem bk_in {A : Mtx} {v : Vec} {X B K : Int} (h1 : VIn A.1 X) (h2 : VIn A.2.1 X) (h3 : VIn A.2.2.1 X) (hv : VIn v B) (hK : X * B ≤ K * 4294967296) (hk : K + K + K ≤ 9223372036854775807) : bkO A v = false ∧ VIn (bkV A v) (K + K + K) := by
  have hn := Int.mul_nonneg h1.1.nn hv.1.nn
  obtain ⟨a1, a2⟩ := vm_in h1 hv.1 hK (by omega)
  obtain ⟨b1, b2⟩ := vm_in h2 hv.2.1 hK (by omega)
  obtain ⟨c1, c2⟩ := vm_in h3 hv.2.2 hK (by omega)
  obtain ⟨d1, d2⟩ := va_in (K := K + K) a2 b2 (by omega) (by omega)
  obtain ⟨e1, e2⟩ := va_in (K := K + K + K) d2 c2 (by omega) (by omega)
  unfold bkO bk1; rw [a1, b1, c1, d1, e1]
  exact ⟨rfl, e2⟩
theorem ps_in {F : Int} (hF : 0 ≤ F) : ∀ (l : List Psh) {v : Vec} {A K : Int}, (∀ p ∈ l, VIn p.1 F) → VIn v A → A + l.length * F ≤ K → K ≤ 9223372036854775807 → psO v l = false ∧ VIn (psV v l) K
  | [], v, A, K, _, hv, hK, _ => ⟨rfl, hv.le (by simpa using hK)⟩
  | p :: l, v, A, K, hl, hv, hK, hk => by
    have e : ((p :: l).length : Int) * F = l.length * F + F := by rw [List.length_cons]; push_cast; rw [Int.add_mul]; omega
    have hn : 0 ≤ (l.length : Int) * F := Int.mul_nonneg (by omega) hF
    rw [e] at hK
    obtain ⟨a1, a2⟩ := va_in (K := A + F) hv (hl p (by simp)) (by omega) (by omega)
    obtain ⟨b1, b2⟩ := ps_in hF l (A := A + F) (K := K) (fun q hq => hl q (by simp [hq])) a2 (by omega) hk
    unfold psO psV; rw [a1, b1]
    exact ⟨rfl, b2⟩
theorem tq_in {F R T : Int} (hT : R * F ≤ T * 4294967296) (hTn : 0 ≤ T) : ∀ (l : List Psh) {v : Vec} {A K : Int}, (∀ p ∈ l, VIn p.1 F ∧ VIn p.2.1 R) → VIn v A → A + l.length * (T + T) ≤ K → K ≤ 9223372036854775807 → tqO v l = false ∧ VIn (tqV v l) K
  | [], v, A, K, _, hv, hK, _ => ⟨rfl, hv.le (by simpa using hK)⟩
  | p :: l, v, A, K, hl, hv, hK, hk => by
    have e : ((p :: l).length : Int) * (T + T) = l.length * (T + T) + (T + T) := by rw [List.length_cons]; push_cast; rw [Int.add_mul]; omega
    have hn : 0 ≤ (l.length : Int) * (T + T) := Int.mul_nonneg (by omega) (by omega)
    rw [e] at hK
    have hA := hv.1.nn
    obtain ⟨c1, c2⟩ := vc_in (hl p (by simp)).2 (hl p (by simp)).1 hT (by omega)
    obtain ⟨a1, a2⟩ := va_in (K := A + (T + T)) hv c2 (by omega) (by omega)
    obtain ⟨b1, b2⟩ := tq_in hT hTn l (A := A + (T + T)) (K := K) (fun q hq => hl q (by simp [hq])) a2 (by omega) hk
    unfold tqO tqV; rw [c1, a1, b1]
    exact ⟨rfl, b2⟩
end Go.Ab
