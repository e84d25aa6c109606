/- Plain Lean: what the laws of this program's functions come to, in numbers and lists; no program is run here. -/
import Derived.Test.YtiikkepnpidilaaPP24w
set_option linter.unusedVariables false
set_option linter.unusedSimpArgs false
set_option maxRecDepth 100000
namespace Go.Proofs.Ytiikkepnpidilaa
open Go Go.Ab Go.Proofs Go.IntWalk
/- BrakeFits in plain Lean (r24). -/
theorem mulS_in {o : Bool} {a b : Int} (h : I64 (mulV a b)) : mulS o a b = (o, mulV a b) := satS_in h
theorem mulV_abs {a b A B k : Int} (ha : -A ≤ a ∧ a ≤ A) (hb : -B ≤ b ∧ b ≤ B) (hA : 0 ≤ A) (hB : 0 ≤ B) (hk : A * B ≤ k * 4294967296) : -k ≤ mulV a b ∧ mulV a b ≤ k := by
  have h := prod_le (a := a) (b := b) (A := A.toNat) (B := B.toNat) (by omega) (by omega)
  have e : ((A.toNat * B.toNat : Nat) : Int) = A * B := by
    rw [Int.natCast_mul, Int.toNat_of_nonneg hA, Int.toNat_of_nonneg hB]
  rw [e] at h
  unfold mulV
  exact ⟨le_rnd (by decide) (by rw [Int.neg_mul]; omega), rnd_le (by decide) (by omega)⟩
theorem divV_abs {a b A b0 k : Int} (ha : -A ≤ a ∧ a ≤ A) (hb : b0 ≤ b) (h0 : 0 < b0) (hk0 : 0 ≤ k) (hk : A * 4294967296 ≤ k * b0) : -k ≤ divV a b ∧ divV a b ≤ k := by
  have h1 : k * b0 ≤ k * b := Int.mul_le_mul_of_nonneg_left hb hk0
  unfold divV
  rw [if_neg (by omega)]
  exact ⟨le_rnd (by omega) (by rw [Int.neg_mul]; omega), rnd_le (by omega) (by omega)⟩
theorem divS_in {o : Bool} {a b : Int} (hb : 0 < b) (h : I64 (divV a b)) : divS o a b = (o, divV a b) := by
  unfold divS
  rw [if_neg (by omega)]; exact satS_in h
theorem absS_in {o : Bool} {a k : Int} (h : -k ≤ a ∧ a ≤ k) (hk : k ≤ 9223372036854775807) : ∃ v, absS o a = (o, v) ∧ 0 ≤ v ∧ v ≤ k ∧ (v = a ∨ v = -a) := by
  unfold absS
  by_cases c : a < 0
  · refine ⟨-a, ?_, by omega, by omega, .inr rfl⟩
    rw [if_pos c]; unfold subS; rw [satS_in (by unfold I64; omega), Int.zero_sub]
  · exact ⟨a, by rw [if_neg c], by omega, by omega, .inl rfl⟩
theorem turn_in {a b t A k j : Int} (ha : -A ≤ a ∧ a ≤ A) (hA : 0 ≤ A) (hb : 536870912 ≤ b) (ht : 0 ≤ t ∧ t ≤ 71582788) (hk0 : 0 ≤ k) (hk : A * 4294967296 ≤ k * 536870912) (hk1 : k ≤ 9223372036854775807) (hj : k * 71582788 ≤ j * 4294967296) (hj1 : j ≤ 9223372036854775807) : ∃ v, turnS false a b t = (false, v) ∧ -j ≤ v ∧ v ≤ j := by
  have h1 := divV_abs ha hb (by decide) hk0 hk
  have h2 := mulV_abs (a := divV a b) (b := t) (A := k) (B := 71582788) (k := j) h1 (by omega) hk0 (by decide) hj
  refine ⟨mulV (divV a b) t, ?_, h2⟩
  unfold turnS
  rw [divS_in (by omega) (by unfold I64; omega)]
  exact mulS_in (o := false) (a := divV a b) (by unfold I64; omega)
theorem clampV_in (a : Int) : -17592186044416 ≤ clampV a (-17592186044416) 17592186044416 ∧ clampV a (-17592186044416) 17592186044416 ≤ 17592186044416 := by
  unfold clampV
  split
  · omega
  · split <;> omega
theorem whirl_fits {w : Whl} {n a b s t : Int} (hr : 536870912 ≤ w.snd.fst ∧ w.snd.fst ≤ 4294967296) (hi : 536870912 ≤ w.snd.snd.fst) (hn : -17592186044416 ≤ n ∧ n ≤ 17592186044416) (ha : -36028797018963968 ≤ a ∧ a ≤ 36028797018963968) (hb : -9007199254740992 ≤ b ∧ b ≤ 9007199254740992) (hs : 0 ≤ s ∧ s ≤ 70368744177664) (ht : 0 ≤ t ∧ t ≤ 71582788) : ∃ v, whirlS false w n a b s t = (false, v) ∧ -17592186044416 ≤ v ∧ v ≤ 17592186044416 := by
  have h1 := mulV_abs (a := b) (b := w.snd.fst) (A := 9007199254740992) (B := 4294967296) (k := 9007199254740992) hb (by omega) (by decide) (by decide) (by decide)
  have e1 : mulS false b (w.snd.fst) = (false, mulV b (w.snd.fst)) := mulS_in (by unfold I64; omega)
  generalize mulV b (w.snd.fst) = p at h1 e1
  have e2 : subS false a p = (false, a - p) := satS_in (by unfold I64; omega)
  obtain ⟨u, e3, h3⟩ := turn_in (a := a - p) (b := w.snd.snd.fst) (t := t) (A := 45035996273704960) (k := 360287970189639680) (j := 9007199254740992) (by omega) (by decide) hi ht (by decide) (by decide) (by decide) (by decide) (by decide)
  have e4 : driveS false n (a - p) (w.snd.snd.fst) t = (false, clampV (n + u) (-17592186044416) 17592186044416) := by
    unfold driveS
    rw [e3]
    unfold addS
    rw [satS_in (by unfold I64; omega)]
  have h4 := clampV_in (n + u)
  generalize clampV (n + u) (-17592186044416) 17592186044416 = z at h4 e4
  obtain ⟨q, e5, h5⟩ := turn_in (a := s) (b := w.snd.snd.fst) (t := t) (A := 70368744177664) (k := 562949953421312) (j := 17592186044416) (by omega) (by decide) hi ht (by decide) (by decide) (by decide) (by decide) (by decide)
  obtain ⟨q1, e6, h6, h6', _⟩ := absS_in (o := false) (a := q) (k := 17592186044416) h5 (by decide)
  obtain ⟨z1, e7, h7, h7', h7''⟩ := absS_in (o := false) (a := z) (k := 17592186044416) h4 (by decide)
  unfold whirlS
  simp only [e1, e2, e4]
  unfold slowS
  simp only [e5, e6, e7]
  by_cases c : z1 ≤ q1
  · rw [if_pos c]; exact ⟨0, rfl, by decide, by decide⟩
  rw [if_neg c]
  by_cases c1 : z < 0
  · rw [if_pos c1]; exact ⟨z + q1, satS_in (by unfold I64; omega), by omega, by omega⟩
  · rw [if_neg c1]; exact ⟨z - q1, satS_in (by unfold I64; omega), by omega, by omega⟩
theorem in12 {a k : Int} (hk : 0 ≤ k ∧ k ≤ 9223372036854775807) : fn12 (a, k, ()) = some (decide (-k ≤ a ∧ a ≤ k), ()) := by
  unfold fn12 law12
  have e : IntKind.i64.wrap (0 - k) = -k := by rw [i64_in _ (by omega)]; omega
  rw [e]
  by_cases c : a ≤ k
  · rw [decide_eq_true (p := a ≤ k) c]
    by_cases d : -k ≤ a
    · rw [decide_eq_true (show a ≥ -k from d), decide_eq_true (show -k ≤ a ∧ a ≤ k from ⟨d, c⟩)]; rfl
    · rw [decide_eq_false (show ¬ a ≥ -k from d), decide_eq_false (show ¬ (-k ≤ a ∧ a ≤ k) from fun h => d h.1)]; rfl
  · rw [decide_eq_false (p := a ≤ k) c, decide_eq_false (show ¬ (-k ≤ a ∧ a ≤ k) from fun h => c h.2)]; rfl
theorem mul_pos_in {a b A B k : Int} (ha : 0 ≤ a ∧ a ≤ A) (hb : 0 ≤ b ∧ b ≤ B) (hk : A * B ≤ k * 4294967296) (hk1 : k ≤ 9223372036854775807) : mulS false a b = (false, mulV a b) ∧ 0 ≤ mulV a b ∧ mulV a b ≤ k := by
  have h := mulV_abs (a := a) (b := b) (A := A) (B := B) (k := k) (by omega) (by omega) (by omega) (by omega) hk
  have h0 : 0 ≤ mulV a b := rnd_nonneg (by decide) (Int.mul_nonneg ha.1 hb.1)
  exact ⟨mulS_in (by unfold I64; omega), h0, h.2⟩
theorem wheels {c : Car} (h : ∀ v ∈ allR c, v = 0) (i : Int) : 536870912 ≤ (wheelOf c i).snd.fst ∧ (wheelOf c i).snd.fst ≤ 4294967296 ∧ 536870912 ≤ (wheelOf c i).snd.snd.fst := by
  have z : ∀ w : Whl, wheelR w = 0 → 536870912 ≤ w.snd.fst ∧ w.snd.fst ≤ 4294967296 ∧ 536870912 ≤ w.snd.snd.fst := by
    intro w hw
    have q := rangedR_zero hw
    have q1 := q (w.snd.fst, 536870912, 4294967296, ()) (by simp)
    have q2 := q (w.snd.snd.fst, 536870912, 274877906944, ()) (by simp)
    exact ⟨q1.1, q1.2, q2.1⟩
  have m : ∀ v, v ∈ [bodyR c, wheelR ((c.snd.snd.fst).fst), wheelR ((c.snd.snd.fst).snd.fst), wheelR ((c.snd.snd.fst).snd.snd.fst), wheelR ((c.snd.snd.fst).snd.snd.snd.fst)] → v = 0 := fun v hv => h v (by unfold allR; simp only [List.mem_cons, List.not_mem_nil, or_false] at hv ⊢; rcases hv with h | h | h | h | h <;> simp [h])
  unfold wheelOf
  split
  · exact z _ (m _ (by simp))
  · split
    · exact z _ (m _ (by simp))
    · split
      · exact z _ (m _ (by simp))
      · exact z _ (m _ (by simp))
theorem rests {c : Car} (h : ∀ v ∈ allR c, v = 0) : (0 ≤ c.snd.snd.snd.snd.snd.snd.snd.snd.snd.snd.snd.snd.snd.snd.snd.snd.snd.snd.snd.snd.snd.fst ∧ c.snd.snd.snd.snd.snd.snd.snd.snd.snd.snd.snd.snd.snd.snd.snd.snd.snd.snd.snd.snd.snd.fst ≤ 70368744177664) ∧ (0 ≤ c.snd.snd.snd.snd.snd.snd.snd.snd.snd.snd.snd.snd.snd.snd.snd.snd.snd.snd.snd.snd.snd.snd.fst ∧ c.snd.snd.snd.snd.snd.snd.snd.snd.snd.snd.snd.snd.snd.snd.snd.snd.snd.snd.snd.snd.snd.snd.fst ≤ 4294967296) := by
  have h12 : restR c = 0 := h _ (by unfold allR; simp)
  unfold restR at h12
  cases hd : (c.snd.snd.snd.snd.snd.snd.snd.snd.snd.snd.snd.snd.snd.snd.snd.snd.snd.snd.fst == (0 : Int) || (c.snd.snd.snd.snd.snd.snd.snd.snd.snd.snd.snd.snd.snd.snd.snd.snd.snd.snd.fst == (1 : Int) || c.snd.snd.snd.snd.snd.snd.snd.snd.snd.snd.snd.snd.snd.snd.snd.snd.snd.snd.fst == (2 : Int)))
  · rw [hd] at h12; exact absurd (show (40 : Int) = 0 from h12) (by decide)
  · rw [hd] at h12
    have q := rangedR_zero (show rangedR _ = 0 from h12)
    exact ⟨q (c.snd.snd.snd.snd.snd.snd.snd.snd.snd.snd.snd.snd.snd.snd.snd.snd.snd.snd.snd.snd.snd.fst, 0, 70368744177664, ()) (by simp), q (c.snd.snd.snd.snd.snd.snd.snd.snd.snd.snd.snd.snd.snd.snd.snd.snd.snd.snd.snd.snd.snd.snd.fst, 0, 4294967296, ()) (by simp)⟩
theorem tail5 (c : Car) (i n a b s t : Int) (hc : OkC c) (hv : ∀ v ∈ allR c, v = 0) (hi : 0 ≤ i ∧ i < 4) (hn : -17592186044416 ≤ n ∧ n ≤ 17592186044416) (ha : -36028797018963968 ≤ a ∧ a ≤ 36028797018963968) (hb : -9007199254740992 ≤ b ∧ b ≤ 9007199254740992) (hs : 0 ≤ s ∧ s ≤ 70368744177664) (ht : 0 ≤ t ∧ t ≤ 71582788) :
    (Option.bind (fn9 (false, ()) (c, i, n, a, b, s, t, ())) fun v9 => (bif !v9.fst.fst then (Option.bind (fn12 (v9.snd.fst, 17592186044416, ())) fun v10 => (bif v10.fst then some ((true, ())) else some ((false, ())))) else some ((false, ())))) = (some (true, ()) : Option (Bool × Unit)) := by
  obtain ⟨v, ev, h1, h2⟩ := whirl_fits (w := wheelOf c i) (n := n) (a := a) (b := b) (s := s) (t := t) ⟨(wheels hv i).1, (wheels hv i).2.1⟩ (wheels hv i).2.2 hn ha hb hs ht
  have e := whirl9 (false, ()) (c, i, n, a, b, s, t, ()) hc (show I64 n by unfold I64; omega) (show I64 a by unfold I64; omega) (show I64 b by unfold I64; omega) (show I64 s by unfold I64; omega) (show I64 t by unfold I64; omega)
  rw [if_neg (show ¬ (i < 0 ∨ i ≥ 4) by omega)] at e
  refine (bindSome e).trans ?_
  show (bif !(res (whirlS false (wheelOf c i) n a b s t)).fst.fst then Option.bind (fn12 ((res (whirlS false (wheelOf c i) n a b s t)).snd.fst, 17592186044416, ())) _ else _) = _
  rw [ev]
  show Option.bind (fn12 (v, 17592186044416, ())) _ = _
  refine (bindSome (in12 (by decide))).trans ?_
  rw [decide_eq_true (show -17592186044416 ≤ v ∧ v ≤ 17592186044416 from ⟨h1, h2⟩)]
  rfl
theorem true5 (x : CarT × Int × (Int × Int × Int × Int × Int × Unit) × Unit) (hc : OkC x.1) : fn5 x = some (true, ()) := by
  obtain ⟨c, i, ⟨n, a, b, s, t, u⟩, u2⟩ := x
  unfold fn5 law5
  obtain ⟨bb, hb, hf⟩ := ex8 c hc.steer hc.rate
  refine (bindSome hb).trans ?_
  cases bb
  case false => rfl
  have hf := hf rfl
  refine (bindSome (ex11 c hf)).trans ?_
  show (bif (rightR c).1 != 0 then some (true, ()) else _) = _
  cases h0 : (rightR c).1 != 0
  case true => rfl
  have hv := rightR_zero (show (rightR c).1 = 0 by simpa using h0)
  refine bifF ?_
  show (bif decide (i < 0) then some (true, ()) else _) = _
  by_cases c1 : i < 0
  · rw [decide_eq_true c1]; rfl
  rw [decide_eq_false c1]
  refine bifF ?_
  show (bif decide (i > 3) then some (true, ()) else _) = _
  by_cases c2 : i > 3
  · rw [decide_eq_true c2]; rfl
  rw [decide_eq_false c2]
  refine bifF ?_
  refine (bindSome (in12 (a := n) (by decide))).trans ?_
  by_cases c3 : -17592186044416 ≤ n ∧ n ≤ 17592186044416
  case neg => rw [decide_eq_false c3]; rfl
  rw [decide_eq_true c3]
  refine (bindSome (in12 (a := a) (by decide))).trans ?_
  by_cases c4 : -36028797018963968 ≤ a ∧ a ≤ 36028797018963968
  case neg => rw [decide_eq_false c4]; rfl
  rw [decide_eq_true c4]
  refine (bindSome (in12 (a := b) (by decide))).trans ?_
  by_cases c5 : -9007199254740992 ≤ b ∧ b ≤ 9007199254740992
  case neg => rw [decide_eq_false c5]; rfl
  rw [decide_eq_true c5]
  show (bif decide (s < 0) then some (true, ()) else bif decide (s > 4294967296) then some (true, ()) else bif decide (t < 0) then some (true, ()) else bif decide (t > 71582788) then some (true, ()) else Option.bind (fn20 (false, ()) (c.snd.snd.snd.snd.snd.snd.snd.snd.snd.snd.snd.snd.snd.snd.snd.snd.snd.snd.snd.snd.snd.fst, s, ())) _) = _
  by_cases d1 : s < 0
  · rw [decide_eq_true d1]; rfl
  rw [decide_eq_false d1]
  refine bifF ?_
  by_cases d2 : s > 4294967296
  · rw [decide_eq_true d2]; rfl
  rw [decide_eq_false d2]
  refine bifF ?_
  by_cases d3 : t < 0
  · rw [decide_eq_true d3]; rfl
  rw [decide_eq_false d3]
  refine bifF ?_
  by_cases d4 : t > 71582788
  · rw [decide_eq_true d4]; rfl
  rw [decide_eq_false d4]
  refine bifF ?_
  obtain ⟨r1, r2⟩ := rests hv
  obtain ⟨m1, m2, m3⟩ := mul_pos_in (a := c.snd.snd.snd.snd.snd.snd.snd.snd.snd.snd.snd.snd.snd.snd.snd.snd.snd.snd.snd.snd.snd.fst) (b := s) (A := 70368744177664) (B := 4294967296) (k := 70368744177664) r1 (by omega) (by decide) (by decide)
  have j0 : I64 (c.snd.snd.snd.snd.snd.snd.snd.snd.snd.snd.snd.snd.snd.snd.snd.snd.snd.snd.snd.snd.snd.fst) := by unfold I64; omega
  have js : I64 s := by unfold I64; omega
  refine (bindSome (mul20 (false, ()) (c.snd.snd.snd.snd.snd.snd.snd.snd.snd.snd.snd.snd.snd.snd.snd.snd.snd.snd.snd.snd.snd.fst, s, ()) j0 js)).trans ?_
  rw [show mulS (((false, ()) : MT), c.snd.snd.snd.snd.snd.snd.snd.snd.snd.snd.snd.snd.snd.snd.snd.snd.snd.snd.snd.snd.snd.fst, s, ()).1.1 (c.snd.snd.snd.snd.snd.snd.snd.snd.snd.snd.snd.snd.snd.snd.snd.snd.snd.snd.snd.snd.snd.fst) s = (false, mulV (c.snd.snd.snd.snd.snd.snd.snd.snd.snd.snd.snd.snd.snd.snd.snd.snd.snd.snd.snd.snd.snd.fst) s) from m1]
  refine bifF ?_
  generalize mulV (c.snd.snd.snd.snd.snd.snd.snd.snd.snd.snd.snd.snd.snd.snd.snd.snd.snd.snd.snd.snd.snd.fst) s = p at m2 m3
  have jp : I64 p := by unfold I64; omega
  have jh : I64 2147483648 := ⟨by decide, by decide⟩
  by_cases e1 : i > 1
  · rw [decide_eq_true e1]
    refine bif_eq rfl ?_
    have es : subS false 4294967296 (c.snd.snd.snd.snd.snd.snd.snd.snd.snd.snd.snd.snd.snd.snd.snd.snd.snd.snd.snd.snd.snd.snd.fst) = (false, 4294967296 - c.snd.snd.snd.snd.snd.snd.snd.snd.snd.snd.snd.snd.snd.snd.snd.snd.snd.snd.snd.snd.snd.snd.fst) := satS_in (by unfold I64; omega)
    refine (bindSome (sub16 (false, ()) (4294967296, c.snd.snd.snd.snd.snd.snd.snd.snd.snd.snd.snd.snd.snd.snd.snd.snd.snd.snd.snd.snd.snd.snd.fst, ()) (show I64 4294967296 from ⟨by decide, by decide⟩) (by unfold I64; show _ ≤ c.snd.snd.snd.snd.snd.snd.snd.snd.snd.snd.snd.snd.snd.snd.snd.snd.snd.snd.snd.snd.snd.snd.fst ∧ c.snd.snd.snd.snd.snd.snd.snd.snd.snd.snd.snd.snd.snd.snd.snd.snd.snd.snd.snd.snd.snd.snd.fst ≤ _; omega))).trans ?_
    show Option.bind (fn20 (res (subS false 4294967296 (c.snd.snd.snd.snd.snd.snd.snd.snd.snd.snd.snd.snd.snd.snd.snd.snd.snd.snd.snd.snd.snd.snd.fst))).1 (p, (res (subS false 4294967296 (c.snd.snd.snd.snd.snd.snd.snd.snd.snd.snd.snd.snd.snd.snd.snd.snd.snd.snd.snd.snd.snd.snd.fst))).2)) _ = _
    rw [es]
    obtain ⟨n1, n2, n3⟩ := mul_pos_in (a := p) (b := 4294967296 - c.snd.snd.snd.snd.snd.snd.snd.snd.snd.snd.snd.snd.snd.snd.snd.snd.snd.snd.snd.snd.snd.snd.fst) (A := 70368744177664) (B := 4294967296) (k := 70368744177664) ⟨m2, m3⟩ (by omega) (by decide) (by decide)
    refine (bindSome (mul20 (false, ()) (p, 4294967296 - c.snd.snd.snd.snd.snd.snd.snd.snd.snd.snd.snd.snd.snd.snd.snd.snd.snd.snd.snd.snd.snd.snd.fst, ()) jp (by unfold I64; show _ ≤ 4294967296 - c.snd.snd.snd.snd.snd.snd.snd.snd.snd.snd.snd.snd.snd.snd.snd.snd.snd.snd.snd.snd.snd.snd.fst ∧ 4294967296 - c.snd.snd.snd.snd.snd.snd.snd.snd.snd.snd.snd.snd.snd.snd.snd.snd.snd.snd.snd.snd.snd.snd.fst ≤ _; omega))).trans ?_
    show Option.bind (fn20 (res (mulS false p (4294967296 - c.snd.snd.snd.snd.snd.snd.snd.snd.snd.snd.snd.snd.snd.snd.snd.snd.snd.snd.snd.snd.snd.snd.fst))).1 ((res (mulS false p (4294967296 - c.snd.snd.snd.snd.snd.snd.snd.snd.snd.snd.snd.snd.snd.snd.snd.snd.snd.snd.snd.snd.snd.snd.fst))).2.1, 2147483648, ())) _ = _
    rw [n1]
    generalize mulV p (4294967296 - c.snd.snd.snd.snd.snd.snd.snd.snd.snd.snd.snd.snd.snd.snd.snd.snd.snd.snd.snd.snd.snd.snd.fst) = q at n2 n3
    obtain ⟨o1, o2, o3⟩ := mul_pos_in (a := q) (b := 2147483648) (A := 70368744177664) (B := 2147483648) (k := 70368744177664) ⟨n2, n3⟩ (by omega) (by decide) (by decide)
    refine (bindSome (mul20 (false, ()) (q, 2147483648, ()) (by unfold I64; show _ ≤ q ∧ q ≤ _; omega) jh)).trans ?_
    show Option.bind (fn9 (res (mulS false q 2147483648)).1 (c, i, n, a, b, (res (mulS false q 2147483648)).2.1, t, u)) _ = _
    rw [o1]
    exact tail5 c i n a b _ t hc hv (by omega) c3 c4 c5 ⟨o2, o3⟩ (by omega)
  · rw [decide_eq_false e1]
    refine bifF ?_
    obtain ⟨n1, n2, n3⟩ := mul_pos_in (a := p) (b := c.snd.snd.snd.snd.snd.snd.snd.snd.snd.snd.snd.snd.snd.snd.snd.snd.snd.snd.snd.snd.snd.snd.fst) (A := 70368744177664) (B := 4294967296) (k := 70368744177664) ⟨m2, m3⟩ r2 (by decide) (by decide)
    refine (bindSome (mul20 (false, ()) (p, c.snd.snd.snd.snd.snd.snd.snd.snd.snd.snd.snd.snd.snd.snd.snd.snd.snd.snd.snd.snd.snd.snd.fst, ()) jp (by unfold I64; show _ ≤ c.snd.snd.snd.snd.snd.snd.snd.snd.snd.snd.snd.snd.snd.snd.snd.snd.snd.snd.snd.snd.snd.snd.fst ∧ c.snd.snd.snd.snd.snd.snd.snd.snd.snd.snd.snd.snd.snd.snd.snd.snd.snd.snd.snd.snd.snd.snd.fst ≤ _; omega))).trans ?_
    show Option.bind (fn20 (res (mulS false p (c.snd.snd.snd.snd.snd.snd.snd.snd.snd.snd.snd.snd.snd.snd.snd.snd.snd.snd.snd.snd.snd.snd.fst))).1 ((res (mulS false p (c.snd.snd.snd.snd.snd.snd.snd.snd.snd.snd.snd.snd.snd.snd.snd.snd.snd.snd.snd.snd.snd.snd.fst))).2.1, 2147483648, ())) _ = _
    rw [n1]
    generalize mulV p (c.snd.snd.snd.snd.snd.snd.snd.snd.snd.snd.snd.snd.snd.snd.snd.snd.snd.snd.snd.snd.snd.snd.fst) = q at n2 n3
    obtain ⟨o1, o2, o3⟩ := mul_pos_in (a := q) (b := 2147483648) (A := 70368744177664) (B := 2147483648) (k := 70368744177664) ⟨n2, n3⟩ (by omega) (by decide) (by decide)
    refine (bindSome (mul20 (false, ()) (q, 2147483648, ()) (by unfold I64; show _ ≤ q ∧ q ≤ _; omega) jh)).trans ?_
    show Option.bind (fn9 (res (mulS false q 2147483648)).1 (c, i, n, a, b, (res (mulS false q 2147483648)).2.1, t, u)) _ = _
    rw [o1]
    exact tail5 c i n a b _ t hc hv (by omega) c3 c4 c5 ⟨o2, o3⟩ (by omega)
theorem true5o (y : Sh.Ts [CarSh, .int .i64, .st [.int .i64, .int .i64, .int .i64, .int .i64, .int .i64]]) (hy : Sh.oks [CarSh, .int .i64, .st [.int .i64, .int .i64, .int .i64, .int .i64, .int .i64]] y) : fn5 y = some (true, ()) :=
  true5 y (okC hy.1)
end Go.Proofs.Ytiikkepnpidilaa
