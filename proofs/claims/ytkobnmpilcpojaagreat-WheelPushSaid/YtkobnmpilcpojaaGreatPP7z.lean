/- Plain Lean: what the laws of this program's functions come to, in numbers and lists; no program is run here. -/
import Derived.Test.YtkobnmpilcpojaaGreatPP7y
set_option linter.unusedVariables false
set_option linter.unusedSimpArgs false
set_option maxRecDepth 100000
namespace Go.Proofs.YtkobnmpilcpojaaGreat
open Go Go.Ab Go.Proofs
theorem par4 {β : Type} (k : Int → Int → Int → Int → Option β) {l0 l1 m0 m1 : Int} (r0 : 0 ≤ l0 ∧ l0 < 4294967296) (r1 : 0 ≤ l1 ∧ l1 < 4294967296) (s0 : 0 ≤ m0 ∧ m0 < 4294967296) (s1 : 0 ≤ m1 ∧ m1 < 4294967296) :
    ∃ a b c d, C4 (fun w4 w5 w6 w7 => C3 (fun w11 w12 w13 => C3 (fun w25 w26 w27 => C2 (fun w30 w31 => k w4 w25 w30 w31) w26 w27 (l1 * m1)) w11 w12 w13 (l1 * m0)) w5 w6 w7 (l0 * m1)) 0 0 0 0 (l0 * m0) = k a b c d ∧ dig [a, b, c, d] ∧ lv [a, b, c, d] = (l0 + 4294967296 * l1) * (m0 + 4294967296 * m1) := by
  have m00 := mulD r0 s0; have m01 := mulD r0 s1; have m10 := mulD r1 s0; have m11 := mulD r1 s1
  have hsq : (l0 + 4294967296 * l1) * (m0 + 4294967296 * m1) = l0 * m0 + 4294967296 * (l0 * m1 + l1 * m0) + 18446744073709551616 * (l1 * m1) := by grind
  have hnn : (l0 + 4294967296 * l1) * (m0 + 4294967296 * m1) ≤ 18446744073709551615 * 18446744073709551615 := Int.mul_le_mul (by omega) (by omega) (by omega) (by decide)
  rw [hsq] at hnn ⊢
  generalize l0 * m0 = p00 at *
  generalize l0 * m1 = p01 at *
  generalize l1 * m0 = p10 at *
  generalize l1 * m1 = p11 at *
  have z4 : dig [0, 0, 0, 0] := by intro x hx; simp at hx; omega
  obtain ⟨x0, x1, x2, x3, c4, d4⟩ := C4_eq (fun w4 w5 w6 w7 => C3 (fun w11 w12 w13 => C3 (fun w25 w26 w27 => C2 (fun w30 w31 => k w4 w25 w30 w31) w26 w27 p11) w11 w12 w13 p10) w5 w6 w7 p01) z4 (p := p00) (by omega)
  have g4 := cadd_dig _ p00 z4 (by omega)
  have v4 := cadd_val [0, 0, 0, 0] p00 z4 (by omega) (by simp only [lv]; simp; omega)
  rw [d4] at g4 v4
  have x0r := g4 x0 (by simp)
  have dx : dig [x1, x2, x3] := fun a ha => g4 a (List.mem_cons_of_mem _ ha)
  obtain ⟨y1, y2, y3, c3, d3⟩ := C3_eq (fun w11 w12 w13 => C3 (fun w25 w26 w27 => C2 (fun w30 w31 => k x0 w25 w30 w31) w26 w27 p11) w11 w12 w13 p10) dx (p := p01) (by omega)
  have g3 := cadd_dig _ p01 dx (by omega)
  rw [lv_cons] at v4
  have v40 : lv [0, 0, 0, 0] = 0 := rfl
  have v3 := cadd_val [x1, x2, x3] p01 dx (by omega) (by simp; omega)
  rw [d3] at g3 v3
  obtain ⟨z1, z2, z3, c3', d3'⟩ := C3_eq (fun w25 w26 w27 => C2 (fun w30 w31 => k x0 w25 w30 w31) w26 w27 p11) g3 (p := p10) (by omega)
  have g3' := cadd_dig _ p10 g3 (by omega)
  have v3' := cadd_val [y1, y2, y3] p10 g3 (by omega) (by simp; omega)
  rw [d3'] at g3' v3'
  have z1r := g3' z1 (by simp)
  have dz : dig [z2, z3] := fun a ha => g3' a (List.mem_cons_of_mem _ ha)
  rw [lv_cons] at v3'
  obtain ⟨u2, u3, c2, d2⟩ := C2_eq (fun w30 w31 => k x0 z1 w30 w31) dz (p := p11) (by omega)
  have g2 := cadd_dig _ p11 dz (by omega)
  have v2 := cadd_val [z2, z3] p11 dz (by omega) (by simp; omega)
  rw [d2] at g2 v2
  refine ⟨x0, z1, u2, u3, c4.trans (c3.trans (c3'.trans c2)), ?_, ?_⟩
  · intro a ha
    simp only [List.mem_cons, List.not_mem_nil, or_false] at ha
    rcases ha with rfl | rfl | rfl | rfl
    · exact x0r
    · exact z1r
    · exact g2 _ (by simp)
    · exact g2 _ (by simp)
  · rw [lv_cons, lv_cons, v2]; omega
theorem mul_all {M : Nat} (x : Int × Int × Unit) (v0 v1 : Int × Unit) (k : Int → Int → Int → Int → Option (NT × Unit)) : law177o0o6 (M + 5) (M + 5) (M + 5) x v0 v1 k (M + 5) = C4 (fun w4 w5 w6 w7 => C3 (fun w11 w12 w13 => C3 (fun w25 w26 w27 => C2 (fun w30 w31 => k w4 w25 w30 w31) w26 w27 (IntKind.u64.wrap (IntKind.u64.wrap (Int.tdiv v0.fst 4294967296) * IntKind.u64.wrap (Int.tdiv v1.fst 4294967296)))) w11 w12 w13 (IntKind.u64.wrap (IntKind.u64.wrap (Int.tdiv v0.fst 4294967296) * Int.tmod v1.fst 4294967296))) w5 w6 w7 (IntKind.u64.wrap (Int.tmod v0.fst 4294967296 * IntKind.u64.wrap (Int.tdiv v1.fst 4294967296)))) 0 0 0 0 (IntKind.u64.wrap (Int.tmod v0.fst 4294967296 * Int.tmod v1.fst 4294967296)) := by kernel_rfl
theorem size86 (a : Int) (h : -9223372036854775808 ≤ a ∧ a ≤ 9223372036854775807) : fn83 (a, ()) = some (if a < 0 then -a else a, ()) := by
  show law83 (a, ()) = _
  unfold law83
  by_cases h0 : a < 0
  · rw [if_pos h0]
    refine (bifT' (by rw [decide_eq_true_eq]; exact h0)).trans ?_
    have e : IntKind.i64.wrap (0 - IntKind.i64.wrap (a + 1)) = -(a + 1) := by simp only [IntKind.wrap_i64]; omega
    simp only [e]
    rw [w64 (-(a + 1)) (by omega), w64 (-(a + 1) + 1) (by omega)]
    rw [show -(a + 1) + 1 = -a by omega]
  · rw [if_neg h0]
    refine (bifF' (by rw [decide_eq_false_iff_not]; exact h0)).trans ?_
    rw [w64 _ (by simp only; omega)]
theorem sqr148 (a : Int) (h : -9223372036854775808 ≤ a ∧ a ≤ 9223372036854775807) : ∃ p q r s, fn177 (a, a, ()) = some ((false, (p, q, r, s, ()), ()), ()) ∧ dig [p, q, r, s] ∧ lv [p, q, r, s] = a * a := by
  have e86 := size86 a h
  obtain ⟨n, hn⟩ : ∃ n, n = if a < 0 then -a else a := ⟨_, rfl⟩
  rw [← hn] at e86
  have hr : 0 ≤ n ∧ n ≤ 9223372036854775808 := by rw [hn]; split <;> omega
  have hsq : n * n = a * a := by
    rw [hn]
    split
    · exact Int.neg_mul_neg a a
    · rfl
  obtain ⟨M, hM⟩ : ∃ M, 10 ^ 30 = M + 5 := ⟨10 ^ 30 - 5, by omega⟩
  have e0 : Int.tmod n 4294967296 = n % 4294967296 := Int.tmod_eq_emod_of_nonneg hr.1
  have e1 : IntKind.u64.wrap (Int.tdiv n 4294967296) = n / 4294967296 := by rw [Int.tdiv_eq_ediv_of_nonneg hr.1, w64 _ (by omega)]
  have r0 : 0 ≤ n % 4294967296 ∧ n % 4294967296 < 4294967296 := by omega
  have r1 : 0 ≤ n / 4294967296 ∧ n / 4294967296 < 4294967296 := by omega
  have m00 := mulD r0 r0; have m01 := mulD r0 r1; have m10 := mulD r1 r0; have m11 := mulD r1 r1
  obtain ⟨p, q, r, s, hk, hd, hv⟩ := par4 (fun w44 w45 w46 w47 => (Option.bind (fn199 ((!decide (a < 0) == decide (a < 0), (w44, w45, w46, w47, ()), ()), ())) fun v48 => (bif v48.fst then some (((false, (w44, w45, w46, w47, ()), ()), ())) else some (((!decide (a < 0) == decide (a < 0), (w44, w45, w46, w47, ()), ()), ()))) : Option (NT × Unit))) r0 r1 r0 r1
  have key := mul_all (M := M) (a, a, ()) (n, ()) (n, ()) (fun w44 w45 w46 w47 => (Option.bind (fn199 ((!decide (a < 0) == decide (a < 0), (w44, w45, w46, w47, ()), ()), ())) fun v48 => (bif v48.fst then some (((false, (w44, w45, w46, w47, ()), ()), ())) else some (((!decide (a < 0) == decide (a < 0), (w44, w45, w46, w47, ()), ()), ()))) : Option (NT × Unit)))
  simp only [e0, e1, w64 _ (show 0 ≤ n % 4294967296 * (n % 4294967296) ∧ _ from ⟨m00.1, by omega⟩), w64 _ (show 0 ≤ n % 4294967296 * (n / 4294967296) ∧ _ from ⟨m01.1, by omega⟩), w64 _ (show 0 ≤ n / 4294967296 * (n % 4294967296) ∧ _ from ⟨m10.1, by omega⟩), w64 _ (show 0 ≤ n / 4294967296 * (n / 4294967296) ∧ _ from ⟨m11.1, by omega⟩)] at key
  refine ⟨p, q, r, s, ?_, hd, ?_⟩
  · show law177 (10 ^ 30) (10 ^ 30) (10 ^ 30) (a, a, ()) = _
    rw [hM]
    unfold law177
    refine (bindT' e86).trans ((bindT' e86).trans (key.trans (hk.trans ?_)))
    have hg : (!decide (a < 0) == decide (a < 0)) = false := by cases decide (a < 0) <;> rfl
    rw [hg]
    refine (bindT' (zero161 false hd)).trans ?_
    cases decide (lv [p, q, r, s] = 0) <;> rfl
  · rw [hv, show n % 4294967296 + 4294967296 * (n / 4294967296) = n by omega, hsq]
end Go.Proofs.YtkobnmpilcpojaaGreat
