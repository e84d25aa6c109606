/- Plain Lean: what the laws of this program's functions come to, in numbers and lists; no program is run here. -/
import Derived.Test.YtkgoflpkdcdajaaGreatPP28v
set_option linter.unusedVariables false
set_option linter.unusedSimpArgs false
set_option maxRecDepth 100000
namespace Go.Proofs.YtkgoflpkdcdajaaGreat
open Go Go.Ab Go.Proofs Go.IntWalk
/- ChassisAir in plain Lean (r28). -/
theorem in112 (a k : Int) : ∃ t, fn112 (a, k, ()) = some (t, ()) := by
  show ∃ t, law112 (a, k, ()) = some (t, ())
  unfold law112
  cases decide ((a, k, ()).fst ≤ (a, k, ()).snd.fst)
  · exact ⟨_, rfl⟩
  · exact ⟨_, rfl⟩
theorem clamp23 (x y z k : Int) (hk : 0 ≤ k ∧ k ≤ 9223372036854775807) : fn23 ((x, y, z, ()), k, ()) = some ((clampV x (-k) k, clampV y (-k) k, clampV z (-k) k, ()), ()) := by
  show law23 ((x, y, z, ()), k, ()) = _
  unfold law23
  have e : IntKind.i64.wrap (0 - k) = -k := by rw [IntKind.wrap_i64]; omega
  simp only [e]
  exact (bindT (clamp37 (x, -k, k, ()))).trans ((bindT (clamp37 (y, -k, k, ()))).trans ((bindT (clamp37 (z, -k, k, ()))).trans rfl))
theorem clamp_in {a k : Int} (hk : 0 ≤ k) (h : clampV a (-k) k = a) : -k ≤ a ∧ a ≤ k := by
  unfold clampV at h
  split at h
  · omega
  · split at h
    · omega
    · omega
theorem body64 (px py pz vx vy vz w x y z rx ry rz : Int) (hw : I64 w) (hx : I64 x) (hy : I64 y) (hz : I64 z) : ∃ t, fn64 (((px, py, pz, ()), (vx, vy, vz, ()), (w, x, y, z, ()), (rx, ry, rz, ()), ()), ()) = some (t, ()) ∧ (t = true → (-549755813888 ≤ vx ∧ vx ≤ 549755813888) ∧ (-549755813888 ≤ vy ∧ vy ≤ 549755813888) ∧ (-549755813888 ≤ vz ∧ vz ≤ 549755813888)) := by
  show ∃ t, law64 _ = some (t, ()) ∧ _
  unfold law64
  obtain ⟨a0, h0⟩ := in112 px 281406257233920
  obtain ⟨a1, h1⟩ := in112 py 281406257233920
  obtain ⟨a2, h2⟩ := in112 pz 4329327034368
  obtain ⟨⟨o, r⟩, h5, _, _⟩ := len68 (10 ^ 30) (by decide) false [w, x, y, z] (by intro a ha; simp only [List.mem_cons, List.not_mem_nil, or_false] at ha; rcases ha with rfl | rfl | rfl | rfl <;> assumption) (by simp)
  have h5 : fn68 (false, ()) ([w, x, y, z], ()) = some (res (o, r)) := h5
  have h25 : fn25 (false, ()) (w, x, y, z, ()) = some (res (o, r)) := by
    show law25 _ _ = _
    unfold law25
    exact (bindT h5).trans rfl
  obtain ⟨a6, h6⟩ := in112 (IntKind.i64.wrap (r - 4294967296)) 16
  have hv := clamp23 vx vy vz 549755813888 (by omega)
  have hr := clamp23 rx ry rz 137438953472 (by omega)
  cases a0
  · exact ⟨false, (bindT h0).trans rfl, fun h => by cases h⟩
  cases a1
  · exact ⟨false, (bindT h0).trans ((bifT rfl).trans ((bindT h1).trans rfl)), fun h => by cases h⟩
  cases a2
  · exact ⟨false, (bindT h0).trans ((bifT rfl).trans ((bindT h1).trans ((bifT rfl).trans ((bindT h2).trans rfl)))), fun h => by cases h⟩
  cases hc : (clampV vx (-549755813888) 549755813888 == vx && (clampV vy (-549755813888) 549755813888 == vy && clampV vz (-549755813888) 549755813888 == vz))
  · exact ⟨false, (bindT h0).trans ((bifT rfl).trans ((bindT h1).trans ((bifT rfl).trans ((bindT h2).trans ((bifT rfl).trans ((bindT hv).trans (bifF hc))))))), fun h => by cases h⟩
  simp only [Bool.and_eq_true, beq_iff_eq] at hc
  have hb := And.intro (clamp_in (by decide) hc.1) (And.intro (clamp_in (by decide) hc.2.1) (clamp_in (by decide) hc.2.2))
  have hc' : (clampV vx (-549755813888) 549755813888 == vx && (clampV vy (-549755813888) 549755813888 == vy && clampV vz (-549755813888) 549755813888 == vz)) = true := by
    simp only [Bool.and_eq_true, beq_iff_eq]; exact hc
  cases hd : (clampV rx (-137438953472) 137438953472 == rx && (clampV ry (-137438953472) 137438953472 == ry && clampV rz (-137438953472) 137438953472 == rz))
  · exact ⟨false, (bindT h0).trans ((bifT rfl).trans ((bindT h1).trans ((bifT rfl).trans ((bindT h2).trans ((bifT rfl).trans ((bindT hv).trans ((bifT hc').trans ((bindT hr).trans (bifF hd))))))))), fun h => by cases h⟩
  · exact ⟨a6, (bindT h0).trans ((bifT rfl).trans ((bindT h1).trans ((bifT rfl).trans ((bindT h2).trans ((bifT rfl).trans ((bindT hv).trans ((bifT hc').trans ((bindT hr).trans ((bifT hd).trans ((bindT h25).trans ((bindT h6).trans rfl))))))))))), fun _ => hb⟩
theorem right22 (N : Nat) (c : Car) (hf : FewC c) (px py pz vx vy vz w x y z rx ry rz : Int) (hw : I64 w) (hx : I64 x) (hy : I64 y) (hz : I64 z) : ∃ t, law22 (N + 1) (c, ((px, py, pz, ()), (vx, vy, vz, ()), (w, x, y, z, ()), (rx, ry, rz, ()), ()), ([], 0, ()), ()) = some (t, ()) ∧ (t = true → (rightR c).1 = 0 ∧ (-549755813888 ≤ vx ∧ vx ≤ 549755813888) ∧ (-549755813888 ≤ vy ∧ vy ≤ 549755813888) ∧ (-549755813888 ≤ vz ∧ vz ≤ 549755813888)) := by
  unfold law22
  have h63 := ex63 c hf
  obtain ⟨t, h64, ht⟩ := body64 px py pz vx vy vz w x y z rx ry rz hw hx hy hz
  by_cases h0 : (rightR c).1 = 0
  · have e0 : ((rightR c).1 != 0) = false := by simp [h0]
    cases t
    · exact ⟨false, (bindT h63).trans ((bifF e0).trans ((bindT h64).trans rfl)), fun h => by cases h⟩
    · refine ⟨true, (bindT h63).trans ((bifF e0).trans ((bindT h64).trans ((bifF rfl).trans ((bifF rfl).trans ((bifF rfl).trans ((bifF rfl).trans ?_)))))), fun _ => ⟨h0, ht rfl⟩⟩
      unfold law22o0
      rfl
  · have e0 : ((rightR c).1 != 0) = true := by simp [h0]
    exact ⟨false, (bindT h63).trans (bifT e0), fun h => by cases h⟩
theorem true6 (c : Car) (hok : OkC c) (px py pz vx vy vz w x y z rx ry rz : Int) (hw : I64 w) (hx : I64 x) (hy : I64 y) (hz : I64 z) : law6 (c, ((px, py, pz, ()), (vx, vy, vz, ()), (w, x, y, z, ()), (rx, ry, rz, ()), ()), ()) = some (true, ()) := by
  obtain ⟨bb, hb, hf⟩ := ex9 c hok.steer hok.rate
  unfold law6
  cases bb
  · exact (bindT hb).trans rfl
  have hf := hf rfl
  obtain ⟨M, hM⟩ : ∃ M, 10 ^ 30 = M + 1 := ⟨10 ^ 30 - 1, by omega⟩
  obtain ⟨t, h22, ht⟩ := right22 M c hf px py pz vx vy vz w x y z rx ry rz hw hx hy hz
  rw [← hM] at h22
  have h22 : fn22 (c, ((px, py, pz, ()), (vx, vy, vz, ()), (w, x, y, z, ()), (rx, ry, rz, ()), ()), ([], 0, ()), ()) = some (t, ()) := h22
  cases t
  · exact (bindT hb).trans ((bifF rfl).trans ((bindT h22).trans rfl))
  obtain ⟨hv, bx, by_, bz⟩ := ht rfl
  obtain ⟨a, b, d, h11, hA, hB, hD⟩ := air11 c hok hf hv vx vy vz bx by_ bz
  refine (bindT hb).trans ((bifF rfl).trans ((bindT h22).trans ((bifF rfl).trans ((bindT h11).trans ?_))))
  simp only [Bool.not_false, cond_true]
  have sg : ∀ v f : Int, ((0 ≤ v → f ≤ 0) ∧ (v ≤ 0 → 0 ≤ f)) → (decide (v < 0) = true ∧ decide (v > 0) = false ∧ decide (f ≥ 0) = true) ∨ (decide (v < 0) = false ∧ decide (f ≤ 0) = true ∧ decide (v > 0) = false ∧ decide (f ≥ 0) = true) ∨ (decide (v < 0) = false ∧ decide (f ≤ 0) = true ∧ decide (v > 0) = true) := fun v f h => by
    simp only [decide_eq_true_eq, decide_eq_false_iff_not]; omega
  rcases sg vx a hA with ⟨e1, e2, e3⟩ | ⟨e1, e2, e3, e4⟩ | ⟨e1, e2, e3⟩
  · simp only [e1, e2, e3, cond_true, cond_false]
    rcases sg vy b hB with ⟨f1, f2, f3⟩ | ⟨f1, f2, f3, f4⟩ | ⟨f1, f2, f3⟩
    · simp only [f1, f2, f3, cond_true, cond_false]
      rcases sg vz d hD with ⟨g1, g2, g3⟩ | ⟨g1, g2, g3, g4⟩ | ⟨g1, g2, g3⟩
      · simp only [g1, g2, g3, cond_true, cond_false]
      · simp only [g1, g2, g3, g4, cond_true, cond_false]
      · simp only [g1, g2, g3, cond_true, cond_false]
    · simp only [f1, f2, f3, f4, cond_true, cond_false]
      rcases sg vz d hD with ⟨g1, g2, g3⟩ | ⟨g1, g2, g3, g4⟩ | ⟨g1, g2, g3⟩
      · simp only [g1, g2, g3, cond_true, cond_false]
      · simp only [g1, g2, g3, g4, cond_true, cond_false]
      · simp only [g1, g2, g3, cond_true, cond_false]
    · simp only [f1, f2, f3, cond_true, cond_false]
      rcases sg vz d hD with ⟨g1, g2, g3⟩ | ⟨g1, g2, g3, g4⟩ | ⟨g1, g2, g3⟩
      · simp only [g1, g2, g3, cond_true, cond_false]
      · simp only [g1, g2, g3, g4, cond_true, cond_false]
      · simp only [g1, g2, g3, cond_true, cond_false]
  · simp only [e1, e2, e3, e4, cond_true, cond_false]
    rcases sg vy b hB with ⟨f1, f2, f3⟩ | ⟨f1, f2, f3, f4⟩ | ⟨f1, f2, f3⟩
    · simp only [f1, f2, f3, cond_true, cond_false]
      rcases sg vz d hD with ⟨g1, g2, g3⟩ | ⟨g1, g2, g3, g4⟩ | ⟨g1, g2, g3⟩
      · simp only [g1, g2, g3, cond_true, cond_false]
      · simp only [g1, g2, g3, g4, cond_true, cond_false]
      · simp only [g1, g2, g3, cond_true, cond_false]
    · simp only [f1, f2, f3, f4, cond_true, cond_false]
      rcases sg vz d hD with ⟨g1, g2, g3⟩ | ⟨g1, g2, g3, g4⟩ | ⟨g1, g2, g3⟩
      · simp only [g1, g2, g3, cond_true, cond_false]
      · simp only [g1, g2, g3, g4, cond_true, cond_false]
      · simp only [g1, g2, g3, cond_true, cond_false]
    · simp only [f1, f2, f3, cond_true, cond_false]
      rcases sg vz d hD with ⟨g1, g2, g3⟩ | ⟨g1, g2, g3, g4⟩ | ⟨g1, g2, g3⟩
      · simp only [g1, g2, g3, cond_true, cond_false]
      · simp only [g1, g2, g3, g4, cond_true, cond_false]
      · simp only [g1, g2, g3, cond_true, cond_false]
  · simp only [e1, e2, e3, cond_true, cond_false]
    rcases sg vy b hB with ⟨f1, f2, f3⟩ | ⟨f1, f2, f3, f4⟩ | ⟨f1, f2, f3⟩
    · simp only [f1, f2, f3, cond_true, cond_false]
      rcases sg vz d hD with ⟨g1, g2, g3⟩ | ⟨g1, g2, g3, g4⟩ | ⟨g1, g2, g3⟩
      · simp only [g1, g2, g3, cond_true, cond_false]
      · simp only [g1, g2, g3, g4, cond_true, cond_false]
      · simp only [g1, g2, g3, cond_true, cond_false]
    · simp only [f1, f2, f3, f4, cond_true, cond_false]
      rcases sg vz d hD with ⟨g1, g2, g3⟩ | ⟨g1, g2, g3, g4⟩ | ⟨g1, g2, g3⟩
      · simp only [g1, g2, g3, cond_true, cond_false]
      · simp only [g1, g2, g3, g4, cond_true, cond_false]
      · simp only [g1, g2, g3, cond_true, cond_false]
    · simp only [f1, f2, f3, cond_true, cond_false]
      rcases sg vz d hD with ⟨g1, g2, g3⟩ | ⟨g1, g2, g3, g4⟩ | ⟨g1, g2, g3⟩
      · simp only [g1, g2, g3, cond_true, cond_false]
      · simp only [g1, g2, g3, g4, cond_true, cond_false]
      · simp only [g1, g2, g3, cond_true, cond_false]
theorem true6o (y : Sh.Ts [CarSh, BodySh]) (hy : Sh.oks [CarSh, BodySh] y) : fn6 y = some (true, ()) :=
  true6 y.1 (okC hy.1) y.2.1.1.1 y.2.1.1.2.1 y.2.1.1.2.2.1 y.2.1.2.1.1 y.2.1.2.1.2.1 y.2.1.2.1.2.2.1 y.2.1.2.2.1.1 y.2.1.2.2.1.2.1 y.2.1.2.2.1.2.2.1 y.2.1.2.2.1.2.2.2.1 y.2.1.2.2.2.1.1 y.2.1.2.2.2.1.2.1 y.2.1.2.2.2.1.2.2.1 hy.2.1.2.2.1.1 hy.2.1.2.2.1.2.1 hy.2.1.2.2.1.2.2.1 hy.2.1.2.2.1.2.2.2.1
end Go.Proofs.YtkgoflpkdcdajaaGreat
