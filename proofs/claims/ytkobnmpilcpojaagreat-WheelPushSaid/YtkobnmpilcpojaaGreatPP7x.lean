/- Plain Lean: what the laws of this program's functions come to, in numbers and lists; no program is run here. -/
import Derived.Test.YtkobnmpilcpojaaGreatPPLimb
set_option linter.unusedVariables false
set_option linter.unusedSimpArgs false
set_option maxRecDepth 100000
namespace Go.Proofs.YtkobnmpilcpojaaGreat
open Go Go.Ab Go.Proofs
theorem bifT' {α : Type} {c : Bool} {a b : α} (h : c = true) : (bif c then a else b) = a := by subst h; rfl
theorem bifF' {α : Type} {c : Bool} {a b : α} (h : c = false) : (bif c then a else b) = b := by subst h; rfl
theorem w64 (n : Int) (h : 0 ≤ n ∧ n < 18446744073709551616) : IntKind.u64.wrap n = n := by
  have e : IntKind.u64.wrap n = n % 18446744073709551616 := by simp [IntKind.wrap, IntKind.signed, IntKind.bits]
  omega
def sS (a c : Int) : Int := IntKind.u64.wrap (a + Int.tmod c 4294967296)
def sD (a c : Int) : Int := Int.tmod (sS a c) 4294967296
def sC (a c : Int) : Int := IntKind.u64.wrap (IntKind.u64.wrap (Int.tdiv c 4294967296) + IntKind.u64.wrap (Int.tdiv (sS a c) 4294967296))
theorem sS_v {a c : Int} (ha : 0 ≤ a ∧ a < 4294967296) (hc : 0 ≤ c ∧ c < 18446744073709551616) : sS a c = a + c % 4294967296 := by
  unfold sS
  rw [Int.tmod_eq_emod_of_nonneg hc.1, w64 _ (by omega)]
theorem sD_v {a c : Int} (ha : 0 ≤ a ∧ a < 4294967296) (hc : 0 ≤ c ∧ c < 18446744073709551616) : sD a c = (a + c % 4294967296) % 4294967296 := by
  unfold sD
  rw [sS_v ha hc, Int.tmod_eq_emod_of_nonneg (by omega)]
theorem sC_v {a c : Int} (ha : 0 ≤ a ∧ a < 4294967296) (hc : 0 ≤ c ∧ c < 18446744073709551616) : sC a c = c / 4294967296 + (a + c % 4294967296) / 4294967296 := by
  unfold sC
  rw [sS_v ha hc, Int.tdiv_eq_ediv_of_nonneg hc.1, Int.tdiv_eq_ediv_of_nonneg (by omega), w64 (c / 4294967296) (by omega), w64 ((a + c % 4294967296) / 4294967296) (by omega), w64 _ (by omega)]
def C2 {β : Type} (k : Int → Int → Option β) (a b p : Int) : Option β := bif decide (p > 0) then (bif decide (sC a p > 0) then k (sD a p) (sD b (sC a p)) else k (sD a p) b) else k a b
def C3 {β : Type} (k : Int → Int → Int → Option β) (a b c p : Int) : Option β := bif decide (p > 0) then (bif decide (sC a p > 0) then (bif decide (sC b (sC a p) > 0) then k (sD a p) (sD b (sC a p)) (sD c (sC b (sC a p))) else k (sD a p) (sD b (sC a p)) c) else k (sD a p) b c) else k a b c
def C4 {β : Type} (k : Int → Int → Int → Int → Option β) (a b c d p : Int) : Option β := bif decide (p > 0) then (bif decide (sC a p > 0) then (bif decide (sC b (sC a p) > 0) then (bif decide (sC c (sC b (sC a p)) > 0) then k (sD a p) (sD b (sC a p)) (sD c (sC b (sC a p))) (sD d (sC c (sC b (sC a p)))) else k (sD a p) (sD b (sC a p)) (sD c (sC b (sC a p))) d) else k (sD a p) (sD b (sC a p)) c d) else k (sD a p) b c d) else k a b c d
theorem C2_eq {β : Type} (k : Int → Int → Option β) {a b p : Int} (h : dig [a, b]) (hp : 0 ≤ p ∧ p < 18446744073709551616) : ∃ x y, C2 k a b p = k x y ∧ cadd [a, b] p = [x, y] := by
  have ha := h a (by simp); have hb := h b (by simp)
  have e1 := sC_v ha hp
  have r1 : 0 ≤ sC a p ∧ sC a p < 18446744073709551616 := by rw [e1]; omega
  unfold C2
  simp only [cadd]
  by_cases h1 : p > 0
  · rw [decide_eq_true h1, if_pos h1, ← e1, ← sD_v ha hp]
    by_cases h2 : sC a p > 0
    · rw [decide_eq_true h2, if_pos h2, ← sD_v hb r1]; exact ⟨_, _, rfl, rfl⟩
    · rw [decide_eq_false h2, if_neg h2]; exact ⟨_, _, rfl, rfl⟩
  · rw [decide_eq_false h1, if_neg h1]; exact ⟨_, _, rfl, rfl⟩
theorem C3_eq {β : Type} (k : Int → Int → Int → Option β) {a b c p : Int} (h : dig [a, b, c]) (hp : 0 ≤ p ∧ p < 18446744073709551616) : ∃ x y z, C3 k a b c p = k x y z ∧ cadd [a, b, c] p = [x, y, z] := by
  have ha := h a (by simp); have hb := h b (by simp); have hc := h c (by simp)
  have e1 := sC_v ha hp
  have r1 : 0 ≤ sC a p ∧ sC a p < 18446744073709551616 := by rw [e1]; omega
  have e2 := sC_v hb r1
  have r2 : 0 ≤ sC b (sC a p) ∧ sC b (sC a p) < 18446744073709551616 := by rw [e2]; omega
  unfold C3
  simp only [cadd]
  by_cases h1 : p > 0
  · rw [decide_eq_true h1, if_pos h1, ← e1, ← sD_v ha hp]
    by_cases h2 : sC a p > 0
    · rw [decide_eq_true h2, if_pos h2, ← e2, ← sD_v hb r1]
      by_cases h3 : sC b (sC a p) > 0
      · rw [decide_eq_true h3, if_pos h3, ← sD_v hc r2]; exact ⟨_, _, _, rfl, rfl⟩
      · rw [decide_eq_false h3, if_neg h3]; exact ⟨_, _, _, rfl, rfl⟩
    · rw [decide_eq_false h2, if_neg h2]; exact ⟨_, _, _, rfl, rfl⟩
  · rw [decide_eq_false h1, if_neg h1]; exact ⟨_, _, _, rfl, rfl⟩
theorem C4_eq {β : Type} (k : Int → Int → Int → Int → Option β) {a b c d p : Int} (h : dig [a, b, c, d]) (hp : 0 ≤ p ∧ p < 18446744073709551616) : ∃ x y z w, C4 k a b c d p = k x y z w ∧ cadd [a, b, c, d] p = [x, y, z, w] := by
  have ha := h a (by simp); have hb := h b (by simp); have hc := h c (by simp); have hd := h d (by simp)
  have e1 := sC_v ha hp
  have r1 : 0 ≤ sC a p ∧ sC a p < 18446744073709551616 := by rw [e1]; omega
  have e2 := sC_v hb r1
  have r2 : 0 ≤ sC b (sC a p) ∧ sC b (sC a p) < 18446744073709551616 := by rw [e2]; omega
  have e3 := sC_v hc r2
  have r3 : 0 ≤ sC c (sC b (sC a p)) ∧ sC c (sC b (sC a p)) < 18446744073709551616 := by rw [e3]; omega
  unfold C4
  simp only [cadd]
  by_cases h1 : p > 0
  · rw [decide_eq_true h1, if_pos h1, ← e1, ← sD_v ha hp]
    by_cases h2 : sC a p > 0
    · rw [decide_eq_true h2, if_pos h2, ← e2, ← sD_v hb r1]
      by_cases h3 : sC b (sC a p) > 0
      · rw [decide_eq_true h3, if_pos h3, ← e3, ← sD_v hc r2]
        by_cases h4 : sC c (sC b (sC a p)) > 0
        · rw [decide_eq_true h4, if_pos h4, ← sD_v hd r3]; exact ⟨_, _, _, _, rfl, rfl⟩
        · rw [decide_eq_false h4, if_neg h4]; exact ⟨_, _, _, _, rfl, rfl⟩
      · rw [decide_eq_false h3, if_neg h3]; exact ⟨_, _, _, _, rfl, rfl⟩
    · rw [decide_eq_false h2, if_neg h2]; exact ⟨_, _, _, _, rfl, rfl⟩
  · rw [decide_eq_false h1, if_neg h1]; exact ⟨_, _, _, _, rfl, rfl⟩
theorem mulD {a b : Int} (ha : 0 ≤ a ∧ a < 4294967296) (hb : 0 ≤ b ∧ b < 4294967296) : 0 ≤ a * b ∧ a * b ≤ 18446744065119617025 := by
  constructor
  · exact Int.mul_nonneg ha.1 hb.1
  · have : a * b ≤ 4294967295 * 4294967295 := Int.mul_le_mul (by omega) (by omega) hb.1 (by decide)
    omega
theorem less159 {a b c d p q r s : Int} (h1 : dig [a, b, c, d]) (h2 : dig [p, q, r, s]) : fn197 ((a, b, c, d, ()), (p, q, r, s, ()), ()) = some (decide (lv [a, b, c, d] < lv [p, q, r, s]), ()) := by
  have ha := h1 a (by simp); have hb := h1 b (by simp); have hc := h1 c (by simp); have hd := h1 d (by simp)
  have hp := h2 p (by simp); have hq := h2 q (by simp); have hr := h2 r (by simp); have hs := h2 s (by simp)
  have eL : lv [a, b, c, d] = a + 4294967296 * (b + 4294967296 * (c + 4294967296 * (d + 4294967296 * 0))) := rfl
  have eR : lv [p, q, r, s] = p + 4294967296 * (q + 4294967296 * (r + 4294967296 * (s + 4294967296 * 0))) := rfl
  generalize lv [a, b, c, d] = L at eL ⊢
  generalize lv [p, q, r, s] = R at eR ⊢
  show law197 _ = _
  unfold law197
  have ne : ∀ u v : Int, u ≠ v → (u != v) = true := fun u v h => by simpa using h
  have eq : ∀ u v : Int, u = v → (u != v) = false := fun u v h => by simp [h]
  have fin : ∀ {x y : Bool}, x = y → (some (x, ()) : Option (Bool × Unit)) = some (y, ()) := fun h => by rw [h]
  by_cases k1 : d = s
  · refine (bifF' (eq d s k1)).trans ?_
    by_cases k2 : c = r
    · refine (bifF' (eq c r k2)).trans ?_
      by_cases k3 : b = q
      · refine (bifF' (eq b q k3)).trans ?_
        by_cases k4 : a = p
        · refine (bifF' (eq a p k4)).trans (fin ?_)
          rw [decide_eq_false (by omega)]
        · refine (bifT' (ne a p k4)).trans (fin ?_)
          rw [decide_eq_decide]; simp only; omega
      · refine (bifT' (ne b q k3)).trans (fin ?_)
        rw [decide_eq_decide]; simp only; omega
    · refine (bifT' (ne c r k2)).trans (fin ?_)
      rw [decide_eq_decide]; simp only; omega
  · refine (bifT' (ne d s k1)).trans (fin ?_)
    rw [decide_eq_decide]; simp only; omega
theorem sq_all (M : Nat) (x : Int × Unit) : law203 (M + 5) (M + 5) (M + 5) x = C4 (fun w4 w5 w6 w7 => C3 (fun w11 w12 w13 => C3 (fun w25 w26 w27 => C2 (fun w30 w31 => some ((w4, w25, w30, w31, ()), ())) w26 w27 (IntKind.u64.wrap (IntKind.u64.wrap (Int.tdiv x.fst 4294967296) * IntKind.u64.wrap (Int.tdiv x.fst 4294967296)))) w11 w12 w13 (IntKind.u64.wrap (IntKind.u64.wrap (Int.tdiv x.fst 4294967296) * Int.tmod x.fst 4294967296))) w5 w6 w7 (IntKind.u64.wrap (Int.tmod x.fst 4294967296 * IntKind.u64.wrap (Int.tdiv x.fst 4294967296)))) 0 0 0 0 (IntKind.u64.wrap (Int.tmod x.fst 4294967296 * Int.tmod x.fst 4294967296)) := by kernel_rfl
theorem lv_cons (a : Int) (l : List Int) : lv (a :: l) = a + 4294967296 * lv l := rfl
theorem square165 (n : Int) (h : 0 ≤ n ∧ n < 18446744073709551616) : ∃ a b c d, fn203 (n, ()) = some ((a, b, c, d, ()), ()) ∧ dig [a, b, c, d] ∧ lv [a, b, c, d] = n * n := by
  obtain ⟨M, hM⟩ : ∃ M, 10 ^ 30 = M + 5 := ⟨10 ^ 30 - 5, by omega⟩
  obtain ⟨l0, hl0⟩ : ∃ l0, l0 = n % 4294967296 := ⟨_, rfl⟩
  obtain ⟨l1, hl1⟩ : ∃ l1, l1 = n / 4294967296 := ⟨_, rfl⟩
  have r0 : 0 ≤ l0 ∧ l0 < 4294967296 := by omega
  have r1 : 0 ≤ l1 ∧ l1 < 4294967296 := by omega
  have hn : n = l0 + 4294967296 * l1 := by omega
  have e0 : Int.tmod n 4294967296 = l0 := by rw [Int.tmod_eq_emod_of_nonneg h.1, hl0]
  have e1 : IntKind.u64.wrap (Int.tdiv n 4294967296) = l1 := by rw [Int.tdiv_eq_ediv_of_nonneg h.1, w64 _ (by omega), hl1]
  have m00 := mulD r0 r0; have m01 := mulD r0 r1; have m10 := mulD r1 r0; have m11 := mulD r1 r1
  have hsq : n * n = l0 * l0 + 4294967296 * (l0 * l1 + l1 * l0) + 18446744073709551616 * (l1 * l1) := by rw [hn]; grind
  have hnn : n * n ≤ 18446744073709551615 * 18446744073709551615 := Int.mul_le_mul (by omega) (by omega) h.1 (by decide)
  have key := sq_all M (n, ())
  simp only [e0, e1, w64 (l0 * l0) (by omega), w64 (l0 * l1) (by omega), w64 (l1 * l0) (by omega), w64 (l1 * l1) (by omega)] at key
  generalize l0 * l0 = p00 at *
  generalize l0 * l1 = p01 at *
  generalize l1 * l0 = p10 at *
  generalize l1 * l1 = p11 at *
  have z4 : dig [0, 0, 0, 0] := by intro x hx; simp at hx; omega
  obtain ⟨x0, x1, x2, x3, c4, d4⟩ := C4_eq (fun w4 w5 w6 w7 => C3 (fun w11 w12 w13 => C3 (fun w25 w26 w27 => C2 (fun w30 w31 => (some ((w4, w25, w30, w31, ()), ()) : Option ((Int × Int × Int × Int × Unit) × Unit))) w26 w27 p11) w11 w12 w13 p10) w5 w6 w7 p01) z4 (p := p00) (by omega)
  have g4 := cadd_dig _ p00 z4 (by omega)
  have v4 := cadd_val [0, 0, 0, 0] p00 z4 (by omega) (by simp only [lv]; simp; omega)
  rw [d4] at g4 v4
  have x0r := g4 x0 (by simp)
  have dx : dig [x1, x2, x3] := fun a ha => g4 a (List.mem_cons_of_mem _ ha)
  obtain ⟨y1, y2, y3, c3, d3⟩ := C3_eq (fun w11 w12 w13 => C3 (fun w25 w26 w27 => C2 (fun w30 w31 => (some ((x0, w25, w30, w31, ()), ()) : Option ((Int × Int × Int × Int × Unit) × Unit))) w26 w27 p11) w11 w12 w13 p10) dx (p := p01) (by omega)
  have g3 := cadd_dig _ p01 dx (by omega)
  rw [lv_cons] at v4
  have v40 : lv [0, 0, 0, 0] = 0 := rfl
  have v3 := cadd_val [x1, x2, x3] p01 dx (by omega) (by simp; omega)
  rw [d3] at g3 v3
  obtain ⟨z1, z2, z3, c3', d3'⟩ := C3_eq (fun w25 w26 w27 => C2 (fun w30 w31 => (some ((x0, w25, w30, w31, ()), ()) : Option ((Int × Int × Int × Int × Unit) × Unit))) w26 w27 p11) g3 (p := p10) (by omega)
  have g3' := cadd_dig _ p10 g3 (by omega)
  have v3' := cadd_val [y1, y2, y3] p10 g3 (by omega) (by simp; omega)
  rw [d3'] at g3' v3'
  have z1r := g3' z1 (by simp)
  have dz : dig [z2, z3] := fun a ha => g3' a (List.mem_cons_of_mem _ ha)
  rw [lv_cons] at v3'
  obtain ⟨u2, u3, c2, d2⟩ := C2_eq (fun w30 w31 => (some ((x0, z1, w30, w31, ()), ()) : Option ((Int × Int × Int × Int × Unit) × Unit))) dz (p := p11) (by omega)
  have g2 := cadd_dig _ p11 dz (by omega)
  have v2 := cadd_val [z2, z3] p11 dz (by omega) (by simp; omega)
  rw [d2] at g2 v2
  refine ⟨x0, z1, u2, u3, ?_, ?_, ?_⟩
  · show law203 (10 ^ 30) (10 ^ 30) (10 ^ 30) (n, ()) = _
    rw [hM]
    exact key.trans (c4.trans (c3.trans (c3'.trans c2)))
  · intro a ha
    simp only [List.mem_cons, List.not_mem_nil, or_false] at ha
    rcases ha with rfl | rfl | rfl | rfl
    · exact x0r
    · exact z1r
    · exact g2 _ (by simp)
    · exact g2 _ (by simp)
  · rw [lv_cons, lv_cons, v2]; omega
end Go.Proofs.YtkobnmpilcpojaaGreat
