/- Plain Lean: what the laws of this program's functions come to, in numbers and lists; no program is run here. -/
import Derived.Test.YtkgoflpkdcdajaaGreatPPStp
set_option linter.unusedVariables false
set_option linter.unusedSimpArgs false
set_option maxRecDepth 100000
namespace Go.Proofs.YtkgoflpkdcdajaaGreat
open Go Go.Ab Go.Proofs Go.IntWalk
/- What is within bounds (right), and ChassisFits, in plain Lean (r28). -/
theorem in112' (x : Int × Int × Unit) (hk : 0 ≤ x.2.1 ∧ x.2.1 ≤ 9223372036854775807) : ∃ t, fn112 x = some (t, ()) ∧ (t = true → In x.1 x.2.1) := by
  show ∃ t, law112 x = some (t, ()) ∧ _
  unfold law112
  by_cases h1 : x.1 ≤ x.2.1
  · refine ⟨_, bifT (decide_eq_true h1), fun h => ?_⟩
    rw [decide_eq_true_eq, IntKind.wrap_i64] at h
    unfold In; omega
  · exact ⟨false, bifF (decide_eq_false h1), fun h => by cases h⟩
theorem vk_id {v : Vec} {c : Int} (hc : 0 ≤ c ∧ c ≤ 9223372036854775807) (h : ((vkV v c).1 == v.1 && ((vkV v c).2.1 == v.2.1 && (vkV v c).2.2.1 == v.2.2.1)) = true) : VIn v c := by
  simp only [Bool.and_eq_true, beq_iff_eq] at h
  exact ⟨(cl_id hc).1 h.1, (cl_id hc).1 h.2.1, (cl_id hc).1 h.2.2⟩
structure Bin (b : BodyT) : Prop where
  p : VIn b.1 281406257233920
  v : VIn b.2.1 549755813888
  w : VIn b.2.2.2.1 137438953472
  q : 4294967280 ≤ lenV (sq4 b.2.2.1) ∧ lenV (sq4 b.2.2.1) ≤ 4294967312
theorem ex64 (x : BodyT × Unit) (hq : Q64 x.1.2.2.1) : ∃ t, fn64 x = some (t, ()) ∧ (t = true → Bin x.1) := by
  show ∃ t, law64 x = some (t, ()) ∧ _
  unfold law64
  obtain ⟨a0, h0, i0⟩ := in112' (x.1.1.1, 281406257233920, ()) (by simp)
  obtain ⟨a1, h1, i1⟩ := in112' (x.1.1.2.1, 281406257233920, ()) (by simp)
  obtain ⟨a2, h2, i2⟩ := in112' (x.1.1.2.2.1, 4329327034368, ()) (by simp)
  have h3 := vk23 (x.1.2.1, 549755813888, ())
  have h4 := vk23 (x.1.2.2.2.1, 137438953472, ())
  have h5 := len25 (false, ()) x.1.2.2.1 hq
  obtain ⟨a6, h6, i6⟩ := in112' (IntKind.i64.wrap (lenV (sq4 x.1.2.2.1) - 4294967296), 16, ()) (by simp)
  cases a0
  · exact ⟨false, (bindT h0).trans rfl, fun h => by cases h⟩
  cases a1
  · exact ⟨false, (bindT h0).trans ((bifT rfl).trans ((bindT h1).trans rfl)), fun h => by cases h⟩
  cases a2
  · exact ⟨false, (bindT h0).trans ((bifT rfl).trans ((bindT h1).trans ((bifT rfl).trans ((bindT h2).trans rfl)))), fun h => by cases h⟩
  cases hc : ((vkV x.1.2.1 549755813888).1 == x.1.2.1.1 && ((vkV x.1.2.1 549755813888).2.1 == x.1.2.1.2.1 && (vkV x.1.2.1 549755813888).2.2.1 == x.1.2.1.2.2.1))
  · exact ⟨false, (bindT h0).trans ((bifT rfl).trans ((bindT h1).trans ((bifT rfl).trans ((bindT h2).trans ((bifT rfl).trans ((bindT h3).trans (bifF hc))))))), fun h => by cases h⟩
  cases hd : ((vkV x.1.2.2.2.1 137438953472).1 == x.1.2.2.2.1.1 && ((vkV x.1.2.2.2.1 137438953472).2.1 == x.1.2.2.2.1.2.1 && (vkV x.1.2.2.2.1 137438953472).2.2.1 == x.1.2.2.2.1.2.2.1))
  · exact ⟨false, (bindT h0).trans ((bifT rfl).trans ((bindT h1).trans ((bifT rfl).trans ((bindT h2).trans ((bifT rfl).trans ((bindT h3).trans ((bifT hc).trans ((bindT h4).trans (bifF hd))))))))), fun h => by cases h⟩
  · refine ⟨a6, (bindT h0).trans ((bifT rfl).trans ((bindT h1).trans ((bifT rfl).trans ((bindT h2).trans ((bifT rfl).trans ((bindT h3).trans ((bifT hc).trans ((bindT h4).trans ((bifT hd).trans ((bindT h5).trans ((bindT h6).trans rfl))))))))))), fun h => ?_⟩
    have l0 := lenV_nn (sq4_nn x.1.2.2.1)
    have l1 := lenV_r (sq4_nn x.1.2.2.1)
    have k := i6 h
    have hz := (i2 rfl)
    refine ⟨⟨i0 rfl, i1 rfl, hz.le (show (4329327034368 : Int) ≤ 281406257233920 by decide)⟩, vk_id (by decide) hc, vk_id (by decide) hd, ?_⟩
    unfold I64 at l1
    unfold In at k
    rw [IntKind.wrap_i64] at k
    simp only at k
    omega
theorem qin_len {q : Qua} (h : lenV (sq4 q) ≤ 4294967312) : QIn q 4294967312 := by
  have hn := sq4_nn q
  obtain ⟨h0, h1, h2⟩ := rootV_is hn
  have hr : rootV (sq4 q) ≤ 4294967312 := by
    unfold lenV at h
    split at h
    · split at h
      · omega
      · exact h
    · omega
  have e : sq4 q = q.1 * q.1 + (q.2.1 * q.2.1 + (q.2.2.1 * q.2.2.1 + (q.2.2.2.1 * q.2.2.2.1 + 0))) := rfl
  have s1 := sq_nonneg q.1; have s2 := sq_nonneg q.2.1; have s3 := sq_nonneg q.2.2.1; have s4 := sq_nonneg q.2.2.2.1
  exact ⟨(root_in h0 (by omega) h2).le hr, (root_in h0 (by omega) h2).le hr, (root_in h0 (by omega) h2).le hr, (root_in h0 (by omega) h2).le hr⟩
theorem same3_of {v w : Vec} (h : (v.1 == w.1 && (v.2.1 == w.2.1 && (v.2.2.1 == w.2.2.1 && true))) = true) : (v.1 == w.1 && (v.2.1 == w.2.1 && v.2.2.1 == w.2.2.1)) = true := by simpa using h
theorem loop22 {β : Type} (N : Nat) (x : CarT × BodyT × AskT × Unit) (k0 k1 : Option β) : ∀ (j n i : Nat), i + j = x.2.2.1.1.length → j < n → i + j < 1000 → (law22o0 N x k0 k1 n i = k0) ∨ (law22o0 N x k0 k1 n i = k1 ∧ ∀ p ∈ x.2.2.1.1.drop i, VIn p.1 18014398509481984 ∧ VIn p.2.1 34359738368)
  | _, 0, _, _, h, _ => by omega
  | 0, n + 1, i, h1, h2, h3 => by
    right
    rw [List.drop_eq_nil_of_le (by omega)]
    exact ⟨(bifF (by rw [decide_eq_false_iff_not]; omega)).trans rfl, by simp⟩
  | j + 1, n + 1, i, h1, h2, h3 => by
    have hi : i < x.2.2.1.1.length := by omega
    rw [List.drop_eq_getElem_cons hi]
    have hc : (decide ((0 : Int) ≤ (i : Int)) && decide ((i : Int) < (x.2.2.1.1.length : Int))) = true := by rw [decide_eq_true (show (0 : Int) ≤ (i : Int) by omega), decide_eq_true (show (i : Int) < (x.2.2.1.1.length : Int) by omega)]; rfl
    have eg : x.2.2.1.1[Int.toNat (i : Int)]? = some x.2.2.1.1[i] := by rw [Int.toNat_natCast, List.getElem?_eq_getElem hi]
    have ew : IntKind.i64.wrap ((i : Int) + 1) = ((i + 1 : Nat) : Int) := by rw [IntKind.wrap_i64]; omega
    have hd : decide ((i : Int) < (x.2.2.1.1.length : Int)) = true := decide_eq_true (by omega)
    have e1 := vk23 (x.2.2.1.1[i].1, 18014398509481984, ())
    have e2 := vk23 (x.2.2.1.1[i].2.1, 34359738368, ())
    cases c1 : ((vkV x.2.2.1.1[i].1 18014398509481984).1 == x.2.2.1.1[i].1.1 && ((vkV x.2.2.1.1[i].1 18014398509481984).2.1 == x.2.2.1.1[i].1.2.1 && ((vkV x.2.2.1.1[i].1 18014398509481984).2.2.1 == x.2.2.1.1[i].1.2.2.1 && true)))
    · left
      exact (bifT hd).trans ((bifT hc).trans ((bindT eg).trans ((bindT e1).trans ((bifT hc).trans ((bindT eg).trans (bifT (by rw [c1]; rfl)))))))
    cases c2 : ((vkV x.2.2.1.1[i].2.1 34359738368).1 == x.2.2.1.1[i].2.1.1 && ((vkV x.2.2.1.1[i].2.1 34359738368).2.1 == x.2.2.1.1[i].2.1.2.1 && ((vkV x.2.2.1.1[i].2.1 34359738368).2.2.1 == x.2.2.1.1[i].2.1.2.2.1 && true)))
    · left
      exact (bifT hd).trans ((bifT hc).trans ((bindT eg).trans ((bindT e1).trans ((bifT hc).trans ((bindT eg).trans ((bifF (by rw [c1]; rfl)).trans ((bifT hc).trans ((bindT eg).trans ((bindT e2).trans ((bifT hc).trans ((bindT eg).trans (bifT (by rw [c2]; rfl)))))))))))))
    have es : law22o0 N x k0 k1 (n + 1) i = law22o0 N x k0 k1 n ((i + 1 : Nat) : Int) := by
      rw [← ew]
      exact (bifT hd).trans ((bifT hc).trans ((bindT eg).trans ((bindT e1).trans ((bifT hc).trans ((bindT eg).trans ((bifF (by rw [c1]; rfl)).trans ((bifT hc).trans ((bindT eg).trans ((bindT e2).trans ((bifT hc).trans ((bindT eg).trans (bifF (by rw [c2]; rfl)))))))))))))
    rw [es]
    rcases loop22 N x k0 k1 j n (i + 1) (by omega) (by omega) (by omega) with h | ⟨h, hl⟩
    · exact .inl h
    · refine .inr ⟨h, fun p hp => ?_⟩
      rcases List.mem_cons.1 hp with rfl | hp
      · exact ⟨vk_id (by decide) (same3_of c1), vk_id (by decide) (same3_of c2)⟩
      · exact hl p hp
theorem ex22 (x : CarT × BodyT × AskT × Unit) (hf : FewC x.1) (hq : Q64 x.2.1.2.2.1) : ∃ t, fn22 x = some (t, ()) ∧ (t = true → (rightR x.1).1 = 0 ∧ Bin x.2.1 ∧ x.2.2.1.1.length ≤ 8 ∧ 0 ≤ x.2.2.1.2.1 ∧ x.2.2.1.2.1 ≤ 71582788 ∧ ∀ p ∈ x.2.2.1.1, VIn p.1 18014398509481984 ∧ VIn p.2.1 34359738368) := by
  have h63 := ex63 x.1 hf
  obtain ⟨b, h64, i64⟩ := ex64 (x.2.1, ()) hq
  show ∃ t, law22 (10 ^ 30) x = some (t, ()) ∧ _
  have hN : 1000 ≤ 10 ^ 30 := by decide
  generalize 10 ^ 30 = N at hN
  show ∃ t, law22 N x = some (t, ()) ∧ _
  cases h0 : (rightR x.1).1 != 0
  case true => exact ⟨false, (bindT h63).trans (bifT h0), fun h => by cases h⟩
  have h0' : (rightR x.1).1 = 0 := by simpa using h0
  cases b
  · exact ⟨false, (bindT h63).trans ((bifF h0).trans ((bindT h64).trans (bifT rfl))), fun h => by cases h⟩
  by_cases h8 : (x.2.2.1.1.length : Int) > 8
  · exact ⟨false, (bindT h63).trans ((bifF h0).trans ((bindT h64).trans ((bifF rfl).trans (bifT (decide_eq_true h8))))), fun h => by cases h⟩
  by_cases h9 : x.2.2.1.2.1 < 0
  · exact ⟨false, (bindT h63).trans ((bifF h0).trans ((bindT h64).trans ((bifF rfl).trans ((bifF (decide_eq_false h8)).trans (bifT (decide_eq_true h9)))))), fun h => by cases h⟩
  by_cases h10 : x.2.2.1.2.1 > 71582788
  · exact ⟨false, (bindT h63).trans ((bifF h0).trans ((bindT h64).trans ((bifF rfl).trans ((bifF (decide_eq_false h8)).trans ((bifF (decide_eq_false h9)).trans (bifT (decide_eq_true h10))))))), fun h => by cases h⟩
  have step : ∀ (R : Option (Bool × Unit)), law22o0 N x (some (false, ())) (some (true, ())) N 0 = R → law22 N x = R := fun R e => (bindT h63).trans ((bifF h0).trans ((bindT h64).trans ((bifF rfl).trans ((bifF (decide_eq_false h8)).trans ((bifF (decide_eq_false h9)).trans ((bifF (decide_eq_false h10)).trans e))))))
  rcases loop22 N x (some (false, ())) (some (true, ())) x.2.2.1.1.length N 0 (by omega) (by omega) (by omega) with h | ⟨h, hl⟩
  · exact ⟨false, step _ h, fun h => by cases h⟩
  · exact ⟨true, step _ h, fun _ => ⟨h0', i64 rfl, by omega, by omega, by omega, by simpa using hl⟩⟩
theorem fit_of {c : CarT} {b : BodyT} {l : List PushT} {dt : Int} (hok : OkC c) (hv : (rightR c).1 = 0) (hb : Bin b) (hn : l.length ≤ 8) (h0 : 0 ≤ dt) (h1 : dt ≤ 71582788) (hl : ∀ p ∈ l, VIn p.1 18014398509481984 ∧ VIn p.2.1 34359738368) : Fit c.1 c.2.1 c.2.2.2.2.2.2.2.1 b l dt := by
  have hz := rangedR_zero (rightR_zero hv (bodyR c) (by simp [allR]))
  have z0 := hz (c.fst, 274877906944, 35184372088832, ()) (by simp)
  have z1 := hz ((c.snd.fst).fst, 68719476736, 281474976710656, ()) (by simp)
  have z2 := hz ((c.snd.fst).snd.fst, 68719476736, 281474976710656, ()) (by simp)
  have z3 := hz ((c.snd.fst).snd.snd.fst, 68719476736, 281474976710656, ()) (by simp)
  simp only at z0 z1 z2 z3
  exact { m0 := z0.1, m1 := z0.2, jj := ⟨by unfold In; omega, by unfold In; omega, by unfold In; omega⟩, j0 := ⟨z1.1, z2.1, z3.1⟩, ta := fun r => ⟨(airT hv r).1, (airT hv r).2.1, (airT hv r).2.2.1⟩, p := hb.p, v := hb.v, q := qin_len hb.q.2, w := hb.w, ps := hl, n := hn, td := by unfold In; omega }
theorem same_vk {v : Vec} (c : Int) (hc : 0 ≤ c ∧ c ≤ 9223372036854775807) (h : VIn v c) : ((vkV v c).1 == v.1 && ((vkV v c).2.1 == v.2.1 && (vkV v c).2.2.1 == v.2.2.1)) = true := by
  simp only [Bool.and_eq_true, beq_iff_eq]
  exact ⟨(cl_id hc).2 h.1, (cl_id hc).2 h.2.1, (cl_id hc).2 h.2.2⟩
theorem ask_of {c : CarT} {b : BodyT} {l : List PushT} {dt : Int} (hok : OkC c) (hf : FewC c) (hp : V64 b.1) (hv : V64 b.2.1) (hq : Q64 b.2.2.1) (hw : V64 b.2.2.2.1) (hl : P64 l) (hn : l.length ≤ 20) (hd : I64 dt) : Ask (c, b, l, dt, ()) :=
  ⟨hok.i0, ⟨hok.inertia.x, hok.inertia.y, hok.inertia.z⟩, ⟨by have := hf.air; simp only; omega, hok.air⟩, hp, hv, hq, hw, hl, hn, hd⟩
theorem okV64' {v : V3T} (h : Sh.ok V3Sh v) : V64 v := ⟨h.1, h.2.1, h.2.2.1⟩
theorem okQ64' {v : QuatT} (h : Sh.ok QuatSh v) : Q64 v := ⟨h.1, h.2.1, h.2.2.1, h.2.2.2.1⟩
theorem okP64' {l : List PushT} (h : Sh.ok (.sl PushSh) l) : P64 l := fun p hp => ⟨okV64' (h.1 p hp).1, okV64' (h.1 p hp).2.1⟩
theorem true5o (y : Sh.Ts [CarSh, BodySh, AskSh]) (hy : Sh.oks [CarSh, BodySh, AskSh] y) : fn5 y = some (true, ()) := by
  have hok : OkC y.1 := okC hy.1
  have hp : V64 y.2.1.1 := okV64' hy.2.1.1
  have hv : V64 y.2.1.2.1 := okV64' hy.2.1.2.1
  have hq : Q64 y.2.1.2.2.1 := okQ64' hy.2.1.2.2.1
  have hw : V64 y.2.1.2.2.2.1 := okV64' hy.2.1.2.2.2.1
  have hl : P64 y.2.2.1.1 := okP64' hy.2.2.1.1
  have hd : I64 y.2.2.1.2.1 := hy.2.2.1.2.1
  obtain ⟨bb, hb, hf⟩ := ex9 y.1 hok.steer hok.rate
  show law5 y = _
  unfold law5
  cases bb
  · exact (bindT hb).trans rfl
  have hf := hf rfl
  refine (bindT hb).trans ((bifF rfl).trans ?_)
  by_cases hn : (y.2.2.1.1.length : Int) ≤ 20
  case neg => exact bifT (by rw [Bool.not_eq_true', decide_eq_false_iff_not]; exact hn)
  refine (bifF (by rw [Bool.not_eq_false', decide_eq_true_eq]; exact hn)).trans ?_
  have hn : y.2.2.1.1.length ≤ 20 := by omega
  obtain ⟨t, h22, ht⟩ := ex22 y hf hq
  refine (bindT h22).trans ?_
  cases t
  · exact bifT rfl
  obtain ⟨k1, k2, k3, k4, k5, k6⟩ := ht rfl
  refine (bifF rfl).trans ?_
  have hfit := fit_of hok k1 k2 k3 k4 k5 k6
  have es := st20 (false, ()) (y.1, y.2.1, y.2.2.1) (ask_of hok hf hp hv hq hw hl hn hd)
  refine (bindT es).trans ?_
  refine (bifT (by rw [Bool.not_eq_true', Bool.false_or]; exact st_in hfit)).trans ?_
  have hs : VIn (stS y.1.1 y.1.2.2.2.2.2.2.2.1 y.2.1 y.2.2.1.1 y.2.2.1.2.1) 549755813888 := vk_in (by decide)
  have hr : VIn (stW y.1.2.1 y.2.1 y.2.2.1.1 y.2.2.1.2.1) 137438953472 := vk_in (by decide)
  refine (bindT (vk23 (stS y.1.1 y.1.2.2.2.2.2.2.2.1 y.2.1 y.2.2.1.1 y.2.2.1.2.1, 549755813888, ()))).trans ((bifT (same_vk 549755813888 (by decide) hs)).trans ?_)
  exact (bindT (vk23 (stW y.1.2.1 y.2.1 y.2.2.1.1 y.2.2.1.2.1, 137438953472, ()))).trans (bifT (same_vk 137438953472 (by decide) hr))
end Go.Proofs.YtkgoflpkdcdajaaGreat
