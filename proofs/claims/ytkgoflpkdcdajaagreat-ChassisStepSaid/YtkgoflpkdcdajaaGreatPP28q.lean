/- Plain Lean: what the laws of this program's functions come to, in numbers and lists; no program is run here. -/
import Derived.Test.YtkgoflpkdcdajaaGreatPP28o
set_option linter.unusedVariables false
set_option linter.unusedSimpArgs false
set_option maxRecDepth 100000
namespace Go.Proofs.YtkgoflpkdcdajaaGreat
open Go Go.Ab Go.Proofs Go.IntWalk
theorem mul42 (m : Mx1T) (x : Int × Int × Unit) (ha : I64 x.1) (hb : I64 x.2.1) : fn42 m x = some ((m.1 || mo x.1 x.2.1, ()), mv x.1 x.2.1, ()) := by rw [mul23 m x ha hb, mulS_eq]; rfl
theorem add89 (m : Mx1T) (x : Int × Int × Unit) (ha : I64 x.1) (hb : I64 x.2.1) : fn89 m x = some ((m.1 || ao x.1 x.2.1, ()), av x.1 x.2.1, ()) := by rw [add41 m x ha hb, addS_eq]; rfl
theorem sub81 (m : Mx1T) (x : Int × Int × Unit) (ha : I64 x.1) (hb : I64 x.2.1) : fn81 m x = some ((m.1 || so x.1 x.2.1, ()), zv x.1 x.2.1, ()) := by rw [sub22 m x ha hb, subS_eq]; rfl
theorem div61 (m : Mx1T) (x : Int × Int × Unit) (ha : I64 x.1) (hb : I64 x.2.1) : fn61 m x = some ((m.1 || dO x.1 x.2.1, ()), dv x.1 x.2.1, ()) := by rw [div42 m x ha hb, divS_eq]; rfl
theorem neg36 (m : Mx1T) (x : Int × Unit) (ha : I64 x.1) : fn36 m x = some ((m.1 || so 0 x.1, ()), zv 0 x.1, ()) := by rw [neg64 m x ha, subS_eq]; rfl
theorem j1 : I64 4294967296 := by unfold I64; omega
theorem j2 : I64 2147483648 := by unfold I64; omega
theorem j0 : I64 0 := by unfold I64; omega
theorem vm34 (m : Mx1T) (x : Vec × Int × Unit) (h : V64 x.1) (hs : I64 x.2.1) : fn34 m x = some ((m.1 || vmO x.1 x.2.1, ()), vmV x.1 x.2.1, ()) := by
  obtain ⟨h1, h2, h3⟩ := h
  show law34 m x = _; unfold law34
  simp only [mul42, h1, h2, h3, hs, Option.bind_some, vmO, vmV, Bool.or_assoc]
theorem vd35 (m : Mx1T) (x : Vec × Int × Unit) (h : V64 x.1) (hs : I64 x.2.1) : fn35 m x = some ((m.1 || vdO x.1 x.2.1, ()), vdV x.1 x.2.1, ()) := by
  obtain ⟨h1, h2, h3⟩ := h
  show law35 m x = _; unfold law35
  simp only [div61, h1, h2, h3, hs, Option.bind_some, vdO, vdV, Bool.or_assoc]
theorem va44 (m : Mx1T) (x : Vec × Vec × Unit) (h : V64 x.1) (hs : V64 x.2.1) : fn44 m x = some ((m.1 || vaO x.1 x.2.1, ()), vaV x.1 x.2.1, ()) := by
  obtain ⟨h1, h2, h3⟩ := h; obtain ⟨k1, k2, k3⟩ := hs
  show law44 m x = _; unfold law44
  simp only [add89, h1, h2, h3, k1, k2, k3, Option.bind_some, vaO, vaV, Bool.or_assoc]
theorem vs60 (m : Mx1T) (x : Vec × Vec × Unit) (h : V64 x.1) (hs : V64 x.2.1) : fn60 m x = some ((m.1 || vsO x.1 x.2.1, ()), vsV x.1 x.2.1, ()) := by
  obtain ⟨h1, h2, h3⟩ := h; obtain ⟨k1, k2, k3⟩ := hs
  show law60 m x = _; unfold law60
  simp only [sub81, h1, h2, h3, k1, k2, k3, Option.bind_some, vsO, vsV, Bool.or_assoc]
theorem clamp90 (x : Int × Int × Int × Unit) : fn90 x = some (clV x.1 x.2.1 x.2.2.1, ()) := by
  unfold fn90 law90 clV
  by_cases h1 : x.1 < x.2.1 <;> by_cases h2 : x.1 > x.2.2.1 <;> simp [h1, h2]
theorem vk45 (x : Vec × Int × Unit) : fn45 x = some (vkV x.1 x.2.1, ()) := by
  show law45 x = _; unfold law45
  simp only [clamp90, Option.bind_some]; rfl
theorem len125 (m : Mx1T) (x : Qua) (h : Q64 x) : fn125 m x = some ((m.1 || lenO (sq4 x), ()), lenV (sq4 x), ()) := by
  have e := lenS125 m.1 _ _ _ _ h.1 h.2.1 h.2.2.1 h.2.2.2
  rw [lenS_eq] at e
  exact e
theorem len33 (m : Mx1T) (x : Vec × Unit) (h : V64 x.1) : fn33 m x = some ((m.1 || lenO (sq3 x.1), ()), lenV (sq3 x.1), ()) := by
  have e := len125 m (0, x.1) ⟨j0, h.1, h.2.1, h.2.2⟩
  have e0 : sq4 (0, x.1) = sq3 x.1 := by unfold sq4 sq3; simp
  rw [e0] at e
  have e80 : fn80 m x.1 = some ((m.1 || lenO (sq3 x.1), ()), lenV (sq3 x.1), ()) := by
    show law80 m x.1 = _; unfold law80
    exact (bindT' e).trans rfl
  show law33 m x = _; unfold law33
  exact (bindT' e80).trans rfl
theorem vc48 (m : Mx1T) (x : Vec × Vec × Unit) (h : V64 x.1) (hs : V64 x.2.1) : fn48 m x = some ((m.1 || vcO x.1 x.2.1, ()), vcV x.1 x.2.1, ()) := by
  obtain ⟨h1, h2, h3⟩ := h; obtain ⟨k1, k2, k3⟩ := hs
  show law48 m x = _; unfold law48
  simp only [mul42, sub81, h1, h2, h3, k1, k2, k3, mv_r, Option.bind_some, vcO, vcL, vcR, vcV, vsV, vsO, Bool.or_assoc]
  congr 3
  ac_rfl
theorem dot130 (m : Mx1T) (x : Vec × Vec × Unit) (h : V64 x.1) (hs : V64 x.2.1) : fn130 m x = some ((m.1 || (mo x.1.1 x.2.1.1 || (mo x.1.2.1 x.2.1.2.1 || (ao (mv x.1.1 x.2.1.1) (mv x.1.2.1 x.2.1.2.1) || (mo x.1.2.2.1 x.2.1.2.2.1 || ao (av (mv x.1.1 x.2.1.1) (mv x.1.2.1 x.2.1.2.1)) (mv x.1.2.2.1 x.2.1.2.2.1))))), ()), av (av (mv x.1.1 x.2.1.1) (mv x.1.2.1 x.2.1.2.1)) (mv x.1.2.2.1 x.2.1.2.2.1), ()) := by
  obtain ⟨h1, h2, h3⟩ := h; obtain ⟨k1, k2, k3⟩ := hs
  show law130 m x = _; unfold law130
  simp only [mul42, add89, h1, h2, h3, k1, k2, k3, mv_r, av_r, Option.bind_some, Bool.or_assoc]
theorem bk58 (m : Mx1T) (x : Mtx × Vec × Unit) (h : M64 x.1) (hs : V64 x.2.1) : fn58 m x = some ((m.1 || bkO x.1 x.2.1, ()), bkV x.1 x.2.1, ()) := by
  obtain ⟨h1, h2, h3⟩ := h
  have c1 : V64 (x.1.1.1, x.1.2.1.1, x.1.2.2.1.1, ()) := ⟨h1.1, h2.1, h3.1⟩
  have c2 : V64 (x.1.1.2.1, x.1.2.1.2.1, x.1.2.2.1.2.1, ()) := ⟨h1.2.1, h2.2.1, h3.2.1⟩
  have c3 : V64 (x.1.1.2.2.1, x.1.2.1.2.2.1, x.1.2.2.1.2.2.1, ()) := ⟨h1.2.2, h2.2.2, h3.2.2⟩
  have e : fn104 m (((x.1.1.1, x.1.2.1.1, x.1.2.2.1.1, ()), (x.1.1.2.1, x.1.2.1.2.1, x.1.2.2.1.2.1, ()), (x.1.1.2.2.1, x.1.2.1.2.2.1, x.1.2.2.1.2.2.1, ()), ()), x.2.1, ()) = some ((m.1 || bkO x.1 x.2.1, ()), bkV x.1 x.2.1, ()) := by
    show law104 m _ = _; unfold law104
    simp only [dot130, c1, c2, c3, hs, Option.bind_some, bkO, bkV, bk1, vmO, vmV, vaO, vaV, Bool.or_assoc]
    congr 3
    ac_rfl
  show law58 m x = _; unfold law58
  exact (bindT' e).trans rfl
theorem qm107 (m : Mx1T) (x : Qua × Qua × Unit) (h : Q64 x.1) (hs : Q64 x.2.1) : fn107 m x = some ((m.1 || qmO x.1 x.2.1, ()), qmV x.1 x.2.1, ()) := by
  obtain ⟨h1, h2, h3, h4⟩ := h; obtain ⟨k1, k2, k3, k4⟩ := hs
  show law107 m x = _; unfold law107
  simp only [mul42, add89, sub81, h1, h2, h3, h4, k1, k2, k3, k4, mv_r, av_r, zv_r, Option.bind_some, qmO, qmV, q0O, q1O, q2O, q3O, q0V, q1V, q2V, q3V, Bool.or_assoc]
theorem qu108 (m : Mx1T) (x : Qua × Unit) (h : Q64 x.1) : fn108 m x = some ((m.1 || quO x.1, ()), quV x.1, ()) := by
  have e := len125 m x.1 h
  have hN := lenV_r (sq4_nn x.1)
  obtain ⟨h1, h2, h3, h4⟩ := h
  show law108 m x = _; unfold law108
  refine (bindT' e).trans ?_
  unfold quO quV
  by_cases h0 : quN x.1 = 0
  · rw [if_pos h0, if_pos h0]
    unfold quN at h0
    refine (bifT' (by simpa using h0)).trans ?_
    simp only [Bool.or_false]
  · rw [if_neg h0, if_neg h0]
    unfold quN at h0 ⊢
    refine (bifF' (by simpa using h0)).trans ?_
    simp only [div61, h1, h2, h3, h4, hN, Option.bind_some, Bool.or_assoc]
theorem qs62 (m : Mx1T) (x : Qua × Vec × Int × Unit) (h : Q64 x.1) (hw : V64 x.2.1) (ht : I64 x.2.2.1) : fn62 m x = some ((m.1 || qsO x.1 x.2.1 x.2.2.1, ()), qsV x.1 x.2.1 x.2.2.1, ()) := by
  have hz : Q64 ((0, x.2.1) : Qua) := ⟨j0, hw.1, hw.2.1, hw.2.2⟩
  have e := qm107 m (x.1, (0, x.2.1), ()) h hz
  have hq := qmV_r x.1 (0, x.2.1)
  have hn := qnV_r x.1 x.2.1 x.2.2.1
  obtain ⟨h1, h2, h3, h4⟩ := h
  obtain ⟨g1, g2, g3, g4⟩ := hq
  unfold qnV hfV at hn
  show law62 m x = _; unfold law62
  refine (bindT' e).trans ?_
  simp only [qmV] at g1 g2 g3 g4 ⊢
  simp only [mul42, add89, qu108, h1, h2, h3, h4, g1, g2, g3, g4, hn, ht, j2, mv_r, av_r, zv_r, Option.bind_some, qsO, qsV, qnO, qnV, hfO, hfV, Bool.or_assoc]
  congr 3
  ac_rfl
theorem mx59 (m : Mx1T) (x : Qua × Unit) (h : Q64 x.1) : fn59 m x = some ((m.1 || mxO x.1, ()), mxV x.1, ()) := by
  obtain ⟨⟨a, b, c, d, _⟩, _⟩ := x
  obtain ⟨h1, h2, h3, h4⟩ := h
  simp only at h1 h2 h3 h4
  obtain ⟨o0, v0, e0, r0, p0, q0⟩ : ∃ (o : Bool) (v : Int), (∀ k, fn42 (k, ()) (b, b, ()) = some ((k || o, ()), v, ())) ∧ I64 v ∧ o = mo b b ∧ v = mv b b := ⟨_, _, fun k => mul42 (k, ()) (b, b, ()) h2 h2, mv_r _ _, rfl, rfl⟩
  obtain ⟨o1, v1, e1, r1, p1, q1⟩ : ∃ (o : Bool) (v : Int), (∀ k, fn42 (k, ()) (c, c, ()) = some ((k || o, ()), v, ())) ∧ I64 v ∧ o = mo c c ∧ v = mv c c := ⟨_, _, fun k => mul42 (k, ()) (c, c, ()) h3 h3, mv_r _ _, rfl, rfl⟩
  obtain ⟨o2, v2, e2, r2, p2, q2⟩ : ∃ (o : Bool) (v : Int), (∀ k, fn42 (k, ()) (d, d, ()) = some ((k || o, ()), v, ())) ∧ I64 v ∧ o = mo d d ∧ v = mv d d := ⟨_, _, fun k => mul42 (k, ()) (d, d, ()) h4 h4, mv_r _ _, rfl, rfl⟩
  obtain ⟨o3, v3, e3, r3, p3, q3⟩ : ∃ (o : Bool) (v : Int), (∀ k, fn42 (k, ()) (b, c, ()) = some ((k || o, ()), v, ())) ∧ I64 v ∧ o = mo b c ∧ v = mv b c := ⟨_, _, fun k => mul42 (k, ()) (b, c, ()) h2 h3, mv_r _ _, rfl, rfl⟩
  obtain ⟨o4, v4, e4, r4, p4, q4⟩ : ∃ (o : Bool) (v : Int), (∀ k, fn42 (k, ()) (b, d, ()) = some ((k || o, ()), v, ())) ∧ I64 v ∧ o = mo b d ∧ v = mv b d := ⟨_, _, fun k => mul42 (k, ()) (b, d, ()) h2 h4, mv_r _ _, rfl, rfl⟩
  obtain ⟨o5, v5, e5, r5, p5, q5⟩ : ∃ (o : Bool) (v : Int), (∀ k, fn42 (k, ()) (c, d, ()) = some ((k || o, ()), v, ())) ∧ I64 v ∧ o = mo c d ∧ v = mv c d := ⟨_, _, fun k => mul42 (k, ()) (c, d, ()) h3 h4, mv_r _ _, rfl, rfl⟩
  obtain ⟨o6, v6, e6, r6, p6, q6⟩ : ∃ (o : Bool) (v : Int), (∀ k, fn42 (k, ()) (a, b, ()) = some ((k || o, ()), v, ())) ∧ I64 v ∧ o = mo a b ∧ v = mv a b := ⟨_, _, fun k => mul42 (k, ()) (a, b, ()) h1 h2, mv_r _ _, rfl, rfl⟩
  obtain ⟨o7, v7, e7, r7, p7, q7⟩ : ∃ (o : Bool) (v : Int), (∀ k, fn42 (k, ()) (a, c, ()) = some ((k || o, ()), v, ())) ∧ I64 v ∧ o = mo a c ∧ v = mv a c := ⟨_, _, fun k => mul42 (k, ()) (a, c, ()) h1 h3, mv_r _ _, rfl, rfl⟩
  obtain ⟨o8, v8, e8, r8, p8, q8⟩ : ∃ (o : Bool) (v : Int), (∀ k, fn42 (k, ()) (a, d, ()) = some ((k || o, ()), v, ())) ∧ I64 v ∧ o = mo a d ∧ v = mv a d := ⟨_, _, fun k => mul42 (k, ()) (a, d, ()) h1 h4, mv_r _ _, rfl, rfl⟩
  obtain ⟨o9, v9, e9, r9, p9, q9⟩ : ∃ (o : Bool) (v : Int), (∀ k, fn89 (k, ()) (v1, v2, ()) = some ((k || o, ()), v, ())) ∧ I64 v ∧ o = ao v1 v2 ∧ v = av v1 v2 := ⟨_, _, fun k => add89 (k, ()) (v1, v2, ()) r1 r2, av_r _ _, rfl, rfl⟩
  obtain ⟨o10, v10, e10, r10, p10, q10⟩ : ∃ (o : Bool) (v : Int), (∀ k, fn89 (k, ()) (v0, v2, ()) = some ((k || o, ()), v, ())) ∧ I64 v ∧ o = ao v0 v2 ∧ v = av v0 v2 := ⟨_, _, fun k => add89 (k, ()) (v0, v2, ()) r0 r2, av_r _ _, rfl, rfl⟩
  obtain ⟨o11, v11, e11, r11, p11, q11⟩ : ∃ (o : Bool) (v : Int), (∀ k, fn89 (k, ()) (v0, v1, ()) = some ((k || o, ()), v, ())) ∧ I64 v ∧ o = ao v0 v1 ∧ v = av v0 v1 := ⟨_, _, fun k => add89 (k, ()) (v0, v1, ()) r0 r1, av_r _ _, rfl, rfl⟩
  obtain ⟨o12, v12, e12, r12, p12, q12⟩ : ∃ (o : Bool) (v : Int), (∀ k, fn81 (k, ()) (v3, v8, ()) = some ((k || o, ()), v, ())) ∧ I64 v ∧ o = so v3 v8 ∧ v = zv v3 v8 := ⟨_, _, fun k => sub81 (k, ()) (v3, v8, ()) r3 r8, zv_r _ _, rfl, rfl⟩
  obtain ⟨o13, v13, e13, r13, p13, q13⟩ : ∃ (o : Bool) (v : Int), (∀ k, fn89 (k, ()) (v3, v8, ()) = some ((k || o, ()), v, ())) ∧ I64 v ∧ o = ao v3 v8 ∧ v = av v3 v8 := ⟨_, _, fun k => add89 (k, ()) (v3, v8, ()) r3 r8, av_r _ _, rfl, rfl⟩
  obtain ⟨o14, v14, e14, r14, p14, q14⟩ : ∃ (o : Bool) (v : Int), (∀ k, fn89 (k, ()) (v4, v7, ()) = some ((k || o, ()), v, ())) ∧ I64 v ∧ o = ao v4 v7 ∧ v = av v4 v7 := ⟨_, _, fun k => add89 (k, ()) (v4, v7, ()) r4 r7, av_r _ _, rfl, rfl⟩
  obtain ⟨o15, v15, e15, r15, p15, q15⟩ : ∃ (o : Bool) (v : Int), (∀ k, fn81 (k, ()) (v4, v7, ()) = some ((k || o, ()), v, ())) ∧ I64 v ∧ o = so v4 v7 ∧ v = zv v4 v7 := ⟨_, _, fun k => sub81 (k, ()) (v4, v7, ()) r4 r7, zv_r _ _, rfl, rfl⟩
  obtain ⟨o16, v16, e16, r16, p16, q16⟩ : ∃ (o : Bool) (v : Int), (∀ k, fn81 (k, ()) (v5, v6, ()) = some ((k || o, ()), v, ())) ∧ I64 v ∧ o = so v5 v6 ∧ v = zv v5 v6 := ⟨_, _, fun k => sub81 (k, ()) (v5, v6, ()) r5 r6, zv_r _ _, rfl, rfl⟩
  obtain ⟨o17, v17, e17, r17, p17, q17⟩ : ∃ (o : Bool) (v : Int), (∀ k, fn89 (k, ()) (v5, v6, ()) = some ((k || o, ()), v, ())) ∧ I64 v ∧ o = ao v5 v6 ∧ v = av v5 v6 := ⟨_, _, fun k => add89 (k, ()) (v5, v6, ()) r5 r6, av_r _ _, rfl, rfl⟩
  obtain ⟨o18, v18, e18, r18, p18, q18⟩ : ∃ (o : Bool) (v : Int), (∀ k, fn89 (k, ()) (v9, v9, ()) = some ((k || o, ()), v, ())) ∧ I64 v ∧ o = ao v9 v9 ∧ v = av v9 v9 := ⟨_, _, fun k => add89 (k, ()) (v9, v9, ()) r9 r9, av_r _ _, rfl, rfl⟩
  obtain ⟨o19, v19, e19, r19, p19, q19⟩ : ∃ (o : Bool) (v : Int), (∀ k, fn81 (k, ()) (4294967296, v18, ()) = some ((k || o, ()), v, ())) ∧ I64 v ∧ o = so 4294967296 v18 ∧ v = zv 4294967296 v18 := ⟨_, _, fun k => sub81 (k, ()) (4294967296, v18, ()) j1 r18, zv_r _ _, rfl, rfl⟩
  obtain ⟨o20, v20, e20, r20, p20, q20⟩ : ∃ (o : Bool) (v : Int), (∀ k, fn89 (k, ()) (v12, v12, ()) = some ((k || o, ()), v, ())) ∧ I64 v ∧ o = ao v12 v12 ∧ v = av v12 v12 := ⟨_, _, fun k => add89 (k, ()) (v12, v12, ()) r12 r12, av_r _ _, rfl, rfl⟩
  obtain ⟨o21, v21, e21, r21, p21, q21⟩ : ∃ (o : Bool) (v : Int), (∀ k, fn89 (k, ()) (v14, v14, ()) = some ((k || o, ()), v, ())) ∧ I64 v ∧ o = ao v14 v14 ∧ v = av v14 v14 := ⟨_, _, fun k => add89 (k, ()) (v14, v14, ()) r14 r14, av_r _ _, rfl, rfl⟩
  obtain ⟨o22, v22, e22, r22, p22, q22⟩ : ∃ (o : Bool) (v : Int), (∀ k, fn89 (k, ()) (v13, v13, ()) = some ((k || o, ()), v, ())) ∧ I64 v ∧ o = ao v13 v13 ∧ v = av v13 v13 := ⟨_, _, fun k => add89 (k, ()) (v13, v13, ()) r13 r13, av_r _ _, rfl, rfl⟩
  obtain ⟨o23, v23, e23, r23, p23, q23⟩ : ∃ (o : Bool) (v : Int), (∀ k, fn89 (k, ()) (v10, v10, ()) = some ((k || o, ()), v, ())) ∧ I64 v ∧ o = ao v10 v10 ∧ v = av v10 v10 := ⟨_, _, fun k => add89 (k, ()) (v10, v10, ()) r10 r10, av_r _ _, rfl, rfl⟩
  obtain ⟨o24, v24, e24, r24, p24, q24⟩ : ∃ (o : Bool) (v : Int), (∀ k, fn81 (k, ()) (4294967296, v23, ()) = some ((k || o, ()), v, ())) ∧ I64 v ∧ o = so 4294967296 v23 ∧ v = zv 4294967296 v23 := ⟨_, _, fun k => sub81 (k, ()) (4294967296, v23, ()) j1 r23, zv_r _ _, rfl, rfl⟩
  obtain ⟨o25, v25, e25, r25, p25, q25⟩ : ∃ (o : Bool) (v : Int), (∀ k, fn89 (k, ()) (v16, v16, ()) = some ((k || o, ()), v, ())) ∧ I64 v ∧ o = ao v16 v16 ∧ v = av v16 v16 := ⟨_, _, fun k => add89 (k, ()) (v16, v16, ()) r16 r16, av_r _ _, rfl, rfl⟩
  obtain ⟨o26, v26, e26, r26, p26, q26⟩ : ∃ (o : Bool) (v : Int), (∀ k, fn89 (k, ()) (v15, v15, ()) = some ((k || o, ()), v, ())) ∧ I64 v ∧ o = ao v15 v15 ∧ v = av v15 v15 := ⟨_, _, fun k => add89 (k, ()) (v15, v15, ()) r15 r15, av_r _ _, rfl, rfl⟩
  obtain ⟨o27, v27, e27, r27, p27, q27⟩ : ∃ (o : Bool) (v : Int), (∀ k, fn89 (k, ()) (v17, v17, ()) = some ((k || o, ()), v, ())) ∧ I64 v ∧ o = ao v17 v17 ∧ v = av v17 v17 := ⟨_, _, fun k => add89 (k, ()) (v17, v17, ()) r17 r17, av_r _ _, rfl, rfl⟩
  obtain ⟨o28, v28, e28, r28, p28, q28⟩ : ∃ (o : Bool) (v : Int), (∀ k, fn89 (k, ()) (v11, v11, ()) = some ((k || o, ()), v, ())) ∧ I64 v ∧ o = ao v11 v11 ∧ v = av v11 v11 := ⟨_, _, fun k => add89 (k, ()) (v11, v11, ()) r11 r11, av_r _ _, rfl, rfl⟩
  obtain ⟨o29, v29, e29, r29, p29, q29⟩ : ∃ (o : Bool) (v : Int), (∀ k, fn81 (k, ()) (4294967296, v28, ()) = some ((k || o, ()), v, ())) ∧ I64 v ∧ o = so 4294967296 v28 ∧ v = zv 4294967296 v28 := ⟨_, _, fun k => sub81 (k, ()) (4294967296, v28, ()) j1 r28, zv_r _ _, rfl, rfl⟩
  have ev : mxV (a, b, c, d, ()) = ((v19, v20, v21, ()), (v22, v24, v25, ()), (v26, v27, v29, ()), ()) := by
    simp only [mxV, dgV, upV, dnV, ← q0, ← q1, ← q2, ← q3, ← q4, ← q5, ← q6, ← q7, ← q8, ← q9, ← q10, ← q11, ← q12, ← q13, ← q14, ← q15, ← q16, ← q17, ← q18, ← q19, ← q20, ← q21, ← q22, ← q23, ← q24, ← q25, ← q26, ← q27, ← q28, ← q29]
  have eo : mxO (a, b, c, d, ()) = (o0 || (o1 || (o2 || (o3 || (o4 || (o5 || (o6 || (o7 || (o8 || (o9 || (o10 || (o11 || (o12 || (o13 || (o14 || (o15 || (o16 || (o17 || (o18 || (o19 || (o20 || (o21 || (o22 || (o23 || (o24 || (o25 || (o26 || (o27 || (o28 || (o29)))))))))))))))))))))))))))))) := by
    simp only [mxO, dgO, upO, dnO, ← q0, ← q1, ← q2, ← q3, ← q4, ← q5, ← q6, ← q7, ← q8, ← q9, ← q10, ← q11, ← q12, ← q13, ← q14, ← q15, ← q16, ← q17, ← q18, ← q19, ← q20, ← q21, ← q22, ← q23, ← q24, ← q25, ← q26, ← q27, ← q28, ← q29, ← p0, ← p1, ← p2, ← p3, ← p4, ← p5, ← p6, ← p7, ← p8, ← p9, ← p10, ← p11, ← p12, ← p13, ← p14, ← p15, ← p16, ← p17, ← p18, ← p19, ← p20, ← p21, ← p22, ← p23, ← p24, ← p25, ← p26, ← p27, ← p28, ← p29]
    clear e29 r29 p29 q29 e28 r28 p28 q28 e27 r27 p27 q27 e26 r26 p26 q26 e25 r25 p25 q25 e24 r24 p24 q24 e23 r23 p23 q23 e22 r22 p22 q22 e21 r21 p21 q21 e20 r20 p20 q20 e19 r19 p19 q19 e18 r18 p18 q18 e17 r17 p17 q17 e16 r16 p16 q16 e15 r15 p15 q15 e14 r14 p14 q14 e13 r13 p13 q13 e12 r12 p12 q12 e11 r11 p11 q11 e10 r10 p10 q10 e9 r9 p9 q9 e8 r8 p8 q8 e7 r7 p7 q7 e6 r6 p6 q6 e5 r5 p5 q5 e4 r4 p4 q4 e3 r3 p3 q3 e2 r2 p2 q2 e1 r1 p1 q1 e0 r0 p0 q0
    simp only [Bool.or_assoc]
    exact orI_eq [o0, o1, o2, o3, o4, o5, o6, o7, o8, o9, o10, o11, o12, o13, o14, o15, o16, o17, o18, o19, o20, o21, o22, o23, o24, o25, o26, o27, o28, o29] [1, 2, 9, 18, 19, 3, 8, 12, 20, 4, 7, 14, 21, 3, 8, 13, 22, 0, 2, 10, 23, 24, 5, 6, 16, 25, 4, 7, 15, 26, 5, 6, 17, 27, 0, 1, 11, 28, 29] [0, 1, 2, 3, 4, 5, 6, 7, 8, 9, 10, 11, 12, 13, 14, 15, 16, 17, 18, 19, 20, 21, 22, 23, 24, 25, 26, 27, 28, 29] rfl rfl
  show law59 m _ = _; unfold law59
  rw [ev, eo]
  refine (bindT' (e0 _)).trans ?_
  refine (bindT' (e1 _)).trans ?_
  refine (bindT' (e2 _)).trans ?_
  refine (bindT' (e3 _)).trans ?_
  refine (bindT' (e4 _)).trans ?_
  refine (bindT' (e5 _)).trans ?_
  refine (bindT' (e6 _)).trans ?_
  refine (bindT' (e7 _)).trans ?_
  refine (bindT' (e8 _)).trans ?_
  refine (bindT' (e9 _)).trans ?_
  refine (bindT' (e10 _)).trans ?_
  refine (bindT' (e11 _)).trans ?_
  refine (bindT' (e12 _)).trans ?_
  refine (bindT' (e13 _)).trans ?_
  refine (bindT' (e14 _)).trans ?_
  refine (bindT' (e15 _)).trans ?_
  refine (bindT' (e16 _)).trans ?_
  refine (bindT' (e17 _)).trans ?_
  refine (bindT' (e18 _)).trans ?_
  refine (bindT' (e19 _)).trans ?_
  refine (bindT' (e20 _)).trans ?_
  refine (bindT' (e21 _)).trans ?_
  refine (bindT' (e22 _)).trans ?_
  refine (bindT' (e23 _)).trans ?_
  refine (bindT' (e24 _)).trans ?_
  refine (bindT' (e25 _)).trans ?_
  refine (bindT' (e26 _)).trans ?_
  refine (bindT' (e27 _)).trans ?_
  refine (bindT' (e28 _)).trans ?_
  refine (bindT' (e29 _)).trans ?_
  simp only [Bool.or_assoc]
end Go.Proofs.YtkgoflpkdcdajaaGreat
