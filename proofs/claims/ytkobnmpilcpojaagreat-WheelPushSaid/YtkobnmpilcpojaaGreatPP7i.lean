/- Plain Lean: what the laws of this program's functions come to, in numbers and lists; no program is run here. -/
import Derived.Test.YtkobnmpilcpojaaGreatPPNum
set_option linter.unusedVariables false
set_option linter.unusedSimpArgs false
set_option maxRecDepth 100000
namespace Go.Proofs.YtkobnmpilcpojaaGreat
open Go Go.Ab Go.Proofs Go.IntWalk
theorem words162 {a b c d : Int} (hd : dig [a, b, c, d]) : ∃ i j, fn200 ((false, (a, b, c, d, ()), ()), ()) = some (i, j, decide (lv [a, b, c, d] < 170141183460469231731687303715884105728), ()) := by
  have ha := hd a (by simp); have hb := hd b (by simp); have hc := hd c (by simp); have hdd := hd d (by simp)
  have eL : lv [a, b, c, d] = a + 4294967296 * (b + 4294967296 * (c + 4294967296 * (d + 4294967296 * 0))) := rfl
  generalize lv [a, b, c, d] = L at eL ⊢
  have e1 : IntKind.u64.wrap (IntKind.u64.wrap (d * 4294967296) + c) = d * 4294967296 + c := by rw [w64 (d * 4294967296) (by omega), w64 _ (by omega)]
  have e2 : IntKind.u64.wrap (IntKind.u64.wrap (b * 4294967296) + a) = b * 4294967296 + a := by rw [w64 (b * 4294967296) (by omega), w64 _ (by omega)]
  show ∃ i j, law200 _ = _
  unfold law200
  simp only [e1, e2]
  by_cases h1 : d * 4294967296 + c > 9223372036854775808
  · refine ⟨0, 0, (bifT' (by rw [decide_eq_true_eq]; exact h1)).trans ?_⟩
    rw [decide_eq_false (by omega)]
  · by_cases h2 : d * 4294967296 + c = 9223372036854775808
    · refine ⟨0, 0, (bifF' (by rw [decide_eq_false_iff_not]; exact h1)).trans ((bifT' (by simpa using h2)).trans ?_)⟩
      rw [decide_eq_false (by omega)]
      by_cases h3 : b * 4294967296 + a = 0
      · exact (bifF' (by simpa using h3)).trans (bifT' rfl)
      · exact (bifT' (by simpa using h3))
    · refine ⟨IntKind.i64.wrap (d * 4294967296 + c), b * 4294967296 + a, ?_⟩
      rw [decide_eq_true (show L < 170141183460469231731687303715884105728 by omega)]
      exact (bifF' (by rw [decide_eq_false_iff_not]; exact h1)).trans ((bifF' (by simpa using h2)).trans (bifF' rfl))
theorem add147 {a b c d p q r s : Int} (h1 : dig [a, b, c, d]) (h2 : dig [p, q, r, s]) : ∃ e f g h, fn176 ((false, (a, b, c, d, ()), ()), (false, (p, q, r, s, ()), ()), ()) = some ((false, (e, f, g, h, ()), ()), decide (lv [a, b, c, d] + lv [p, q, r, s] < 170141183460469231731687303715884105728), ()) ∧ (lv [a, b, c, d] + lv [p, q, r, s] < 170141183460469231731687303715884105728 → dig [e, f, g, h] ∧ lv [e, f, g, h] = lv [a, b, c, d] + lv [p, q, r, s]) := by
  have ha := h1 a (by simp); have hb := h1 b (by simp); have hc := h1 c (by simp); have hd := h1 d (by simp)
  have hp := h2 p (by simp); have hq := h2 q (by simp); have hr := h2 r (by simp); have hs := h2 s (by simp)
  have eL : lv [a, b, c, d] = a + 4294967296 * (b + 4294967296 * (c + 4294967296 * (d + 4294967296 * 0))) := rfl
  have eR : lv [p, q, r, s] = p + 4294967296 * (q + 4294967296 * (r + 4294967296 * (s + 4294967296 * 0))) := rfl
  generalize lv [a, b, c, d] = L at eL ⊢
  generalize lv [p, q, r, s] = R at eR ⊢
  have step : ∀ u v w : Int, (0 ≤ u ∧ u < 4294967296) → (0 ≤ v ∧ v < 4294967296) → (0 ≤ w ∧ w ≤ 1) → IntKind.u64.wrap (IntKind.u64.wrap (u + v) + w) = u + v + w := fun u v w hu hv hw => by rw [w64 (u + v) (by omega), w64 _ (by omega)]
  have car : ∀ u : Int, (0 ≤ u ∧ u < 8589934592) → IntKind.u64.wrap (u.tdiv 4294967296) = u / 4294967296 := fun u hu => by rw [Int.tdiv_eq_ediv_of_nonneg hu.1, w64 _ (by omega)]
  have rem : ∀ u : Int, (0 ≤ u ∧ u < 8589934592) → u.tmod 4294967296 = u % 4294967296 := fun u hu => Int.tmod_eq_emod_of_nonneg hu.1
  obtain ⟨s0, hs0⟩ : ∃ s0, s0 = a + p + 0 := ⟨_, rfl⟩
  have e0 := step a p 0 ha hp (by omega)
  rw [← hs0] at e0
  have c0 := car s0 (by omega); have m0 := rem s0 (by omega)
  obtain ⟨s1, hs1⟩ : ∃ s1, s1 = b + q + s0 / 4294967296 := ⟨_, rfl⟩
  have e1 := step b q (s0 / 4294967296) hb hq (by omega)
  rw [← hs1] at e1
  have c1 := car s1 (by omega); have m1 := rem s1 (by omega)
  obtain ⟨s2, hs2⟩ : ∃ s2, s2 = c + r + s1 / 4294967296 := ⟨_, rfl⟩
  have e2 := step c r (s1 / 4294967296) hc hr (by omega)
  rw [← hs2] at e2
  have c2 := car s2 (by omega); have m2 := rem s2 (by omega)
  obtain ⟨s3, hs3⟩ : ∃ s3, s3 = d + s + s2 / 4294967296 := ⟨_, rfl⟩
  have e3 := step d s (s2 / 4294967296) hd hs (by omega)
  rw [← hs3] at e3
  have c3 := car s3 (by omega); have m3 := rem s3 (by omega)
  have hdg : dig [s0 % 4294967296, s1 % 4294967296, s2 % 4294967296, s3 % 4294967296] := by
    intro x hx
    simp only [List.mem_cons, List.not_mem_nil, or_false] at hx
    rcases hx with rfl | rfl | rfl | rfl <;> omega
  have eV : lv [s0 % 4294967296, s1 % 4294967296, s2 % 4294967296, s3 % 4294967296] = s0 % 4294967296 + 4294967296 * (s1 % 4294967296 + 4294967296 * (s2 % 4294967296 + 4294967296 * (s3 % 4294967296 + 4294967296 * 0))) := rfl
  obtain ⟨i, j, e162⟩ := words162 hdg
  have e161 := zero161 false hdg
  show ∃ e f g h, law176 _ = _ ∧ _
  unfold law176
  simp only [z176o1, z176o5, z176o6, e0, c0, m0, e1, c1, m1, e2, c2, m2, e3, c3, m3]
  generalize lv [s0 % 4294967296, s1 % 4294967296, s2 % 4294967296, s3 % 4294967296] = V at e162 e161 eV
  have hh : ∀ k : Option (NT × Bool × Unit), (bif (false == false : Bool) then (Option.bind (fn199 ((false, (s0 % 4294967296, s1 % 4294967296, s2 % 4294967296, s3 % 4294967296, ()), ()), ())) fun v0 => (bif v0.fst then (Option.bind (fn200 ((false, (s0 % 4294967296, s1 % 4294967296, s2 % 4294967296, s3 % 4294967296, ()), ()), ())) fun v1 => (bif !s3 / 4294967296 == 0 then some (((false, (0, 0, 0, 0, ()), ()), false, ())) else (bif !v1.snd.snd.fst then some (((false, (0, 0, 0, 0, ()), ()), false, ())) else some (((false, (s0 % 4294967296, s1 % 4294967296, s2 % 4294967296, s3 % 4294967296, ()), ()), true, ()))))) else (Option.bind (fn200 ((false, (s0 % 4294967296, s1 % 4294967296, s2 % 4294967296, s3 % 4294967296, ()), ()), ())) fun v1 => (bif !s3 / 4294967296 == 0 then some (((false, (0, 0, 0, 0, ()), ()), false, ())) else (bif !v1.snd.snd.fst then some (((false, (0, 0, 0, 0, ()), ()), false, ())) else some (((false, (s0 % 4294967296, s1 % 4294967296, s2 % 4294967296, s3 % 4294967296, ()), ()), true, ()))))))) else k) = (bif !s3 / 4294967296 == 0 then some (((false, (0, 0, 0, 0, ()), ()), false, ())) else (bif !decide (V < 170141183460469231731687303715884105728) then some (((false, (0, 0, 0, 0, ()), ()), false, ())) else some (((false, (s0 % 4294967296, s1 % 4294967296, s2 % 4294967296, s3 % 4294967296, ()), ()), true, ())))) := by
    intro k
    refine (bindT' e161).trans ?_
    by_cases hz : V = 0
    · rw [decide_eq_true hz]
      exact (bindT' e162)
    · rw [decide_eq_false hz]
      exact (bindT' e162)
  by_cases hc3 : s3 / 4294967296 = 0
  · by_cases hV : V < 170141183460469231731687303715884105728
    · refine ⟨_, _, _, _, (hh _).trans ((bifF' (by simpa using hc3)).trans ((bifF' (by simpa using hV)).trans (by rw [decide_eq_true (by omega)])) ), fun _ => ⟨hdg, ?_⟩⟩
      show s0 % 4294967296 + 4294967296 * (s1 % 4294967296 + 4294967296 * (s2 % 4294967296 + 4294967296 * (s3 % 4294967296 + 4294967296 * 0))) = _
      omega
    · refine ⟨0, 0, 0, 0, (hh _).trans ((bifF' (by simpa using hc3)).trans ((bifT' (by simpa using hV)).trans (by rw [decide_eq_false (by omega)]))), fun h => ?_⟩
      exfalso; omega
  · refine ⟨0, 0, 0, 0, (hh _).trans ((bifT' (by simpa using hc3)).trans (by rw [decide_eq_false (by omega)])), fun h => ?_⟩
    exfalso; omega
theorem lenS68 (o : Bool) (l : List Int) (hl : ∀ a ∈ l, I64 a) (hlen : l.length ≤ 1000) : fn93 (o, ()) (l, ()) = some (res (lenS o (sqs l))) := by
  show law93 (10 ^ 30) _ _ = _
  unfold law93
  have hnn := sqs_nn l
  unfold lenS
  rcases len_loop (10 ^ 30) (o, ()) l _ hl hlen l.length (10 ^ 30) 0 0 (by omega) (by omega) (Int.le_refl 0) (by decide) with ⟨h1, h2⟩ | ⟨h1, h2⟩
  · simp only [List.drop_zero, Int.zero_add] at h1 h2
    obtain ⟨r, e5, r0, r1, r2, r3⟩ := root39 (sqs l) ⟨hnn, h1⟩
    rw [if_pos h1, rootV_eq r0 r2 r3]
    by_cases hr : r > 9223372036854775807
    · rw [if_pos hr]
      exact h2.trans ((bindT e5).trans ((bifF rfl).trans (bifT (by rw [decide_eq_true_eq]; exact hr))))
    · rw [if_neg hr]
      refine h2.trans ((bindT e5).trans ((bifF rfl).trans ((bifF (by rw [decide_eq_false_iff_not]; exact hr)).trans ?_)))
      rw [i64_in r (by omega)]; rfl
  · simp only [List.drop_zero, Int.zero_add] at h1 h2
    obtain ⟨r, e5, _⟩ := root39 0 (by omega)
    rw [if_neg h1]
    exact h2.trans ((bindT e5).trans (bifT rfl))
theorem lenS125 (o : Bool) (w x y z : Int) (hw : I64 w) (hx : I64 x) (hy : I64 y) (hz : I64 z) : fn155 (o, ()) (w, x, y, z, ()) = some (res (lenS o (sqs [w, x, y, z]))) := by
  unfold I64 at hw hx hy hz
  obtain ⟨w0, w1, w2, w3, ew, dw, vw⟩ := sqr148 w hw
  obtain ⟨x0, x1, x2, x3, ex, dx, vx⟩ := sqr148 x hx
  obtain ⟨y0, y1, y2, y3, ey, dy, vy⟩ := sqr148 y hy
  obtain ⟨z0, z1, z2, z3, ez, dz, vz⟩ := sqr148 z hz
  have nw := sq_nn w; have nx := sq_nn x; have ny := sq_nn y; have nz := sq_nn z
  have es : sqs [w, x, y, z] = w * w + (x * x + (y * y + (z * z + 0))) := rfl
  generalize sqs [w, x, y, z] = S at es ⊢
  obtain ⟨a0, a1, a2, a3, ea, ha⟩ := add147 dw dx
  rw [vw, vx] at ea ha
  have lw : w * w ≤ 85070591730234615865843651857942052864 := sq64 hw
  have lx : x * x ≤ 85070591730234615865843651857942052864 := sq64 hx
  have ly : y * y ≤ 85070591730234615865843651857942052864 := sq64 hy
  have lz : z * z ≤ 85070591730234615865843651857942052864 := sq64 hz
  have over : ¬ S < 170141183460469231731687303715884105728 → lenS o S = (true, 9223372036854775807) := fun h => by unfold lenS; rw [if_neg h]
  show law155 _ _ = _
  unfold law155
  refine (bindT' ew).trans ((bindT' ex).trans ((bindT' ea).trans ?_))
  by_cases h1 : w * w + x * x < 170141183460469231731687303715884105728
  · obtain ⟨da, va⟩ := ha h1
    obtain ⟨b0, b1, b2, b3, eb, hb⟩ := add147 da dy
    rw [va, vy] at eb hb
    refine (bifT' (decide_eq_true h1)).trans ((bindT' ey).trans ((bindT' eb).trans ?_))
    by_cases h2 : w * w + x * x + y * y < 170141183460469231731687303715884105728
    · obtain ⟨db, vb⟩ := hb h2
      obtain ⟨c0, c1, c2, c3, ec, hc⟩ := add147 db dz
      rw [vb, vz] at ec hc
      refine (bifT' (decide_eq_true h2)).trans ((bindT' ez).trans ((bindT' ec).trans ?_))
      by_cases h3 : w * w + x * x + y * y + z * z < 170141183460469231731687303715884105728
      · obtain ⟨dc, vc⟩ := hc h3
        obtain ⟨r, er, r0, r1, r2, r3⟩ := root149 dc
        rw [vc, show w * w + x * x + y * y + z * z = S by omega] at r2 r3
        refine (bifT' (decide_eq_true h3)).trans ((bindT' er).trans ((bifF' (by rw [decide_eq_true h3]; rfl)).trans ?_))
        unfold lenS
        rw [if_pos (show S < _ by omega), rootV_eq r0 r2 r3]
        by_cases hr : r > 9223372036854775807
        · rw [if_pos hr]
          exact bifT' (by rw [decide_eq_true_eq]; exact hr)
        · rw [if_neg hr]
          refine (bifF' (by rw [decide_eq_false_iff_not]; exact hr)).trans ?_
          simp only [i64_in r (show -9223372036854775808 ≤ r ∧ r ≤ 9223372036854775807 by omega)]; rfl
      · rw [over (by omega)]
        exact (bifF' (decide_eq_false h3)).trans (bifT' (by rw [decide_eq_false h3]; rfl))
    · rw [over (by omega)]
      exact (bifF' (decide_eq_false h2)).trans (bifF' (decide_eq_false h2)|>.trans (bifT' (by rw [decide_eq_false h2]; rfl)))
  · rw [over (by omega)]
    obtain ⟨b0, b1, b2, b3, eb, hb⟩ := add147 dw dy
    refine (bifF' (decide_eq_false h1)).trans ?_
    exact (bifF' (decide_eq_false h1)).trans ((bifF' (decide_eq_false h1)).trans (bifT' (by rw [decide_eq_false h1]; rfl)))
end Go.Proofs.YtkobnmpilcpojaaGreat
