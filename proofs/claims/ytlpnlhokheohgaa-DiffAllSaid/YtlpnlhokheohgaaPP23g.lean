/- Plain Lean: what the laws of this program's functions come to, in numbers and lists; no program is run here. -/
import Derived.Test.YtlpnlhokheohgaaPP23f
set_option linter.unusedVariables false
set_option linter.unusedSimpArgs false
set_option maxRecDepth 100000
namespace Go.Proofs.Ytlpnlhokheohgaa
open Go Go.Ab Go.Proofs Go.IntWalk
/- DiffAll in plain Lean (r23). -/
theorem each2 (t : Int) (ht : -18014398509481984 ≤ t ∧ t ≤ 18014398509481984) : ∃ E : Int, fn19 (false, ()) (t, 8589934592, ()) = some (res (false, E)) ∧ (-18014398509481984 ≤ E ∧ E ≤ 18014398509481984) ∧ t - 2 * E ≤ 1 ∧ -1 ≤ t - 2 * E := by
  have h := rnd_near (t * 4294967296) (show (0 : Int) < 8589934592 by decide)
  have e : divV t 8589934592 = rnd (t * 4294967296) 8589934592 := by unfold divV; rw [if_neg (by decide)]
  have q := divV_in (a := t) (b := 8589934592) (A := 18014398509481984) (b0 := 8589934592) (k := 9007199254740992) ht (by decide) (by decide) (by decide) (by decide)
  refine ⟨divV t 8589934592, ?_, by omega, by omega, by omega⟩
  rw [div30 (false, ()) (t, 8589934592, ()) (show I64 t from I64_of ht (by decide)) (show I64 8589934592 by unfold I64; decide)]
  show some (res (divS false t 8589934592)) = _
  rw [divF (by decide) (by unfold I64; omega)]
theorem each1 (t : Int) (ht : -18014398509481984 ≤ t ∧ t ≤ 18014398509481984) : fn19 (false, ()) (t, 4294967296, ()) = some (res (false, t)) := by
  have e : divV t 4294967296 = t := by unfold divV; rw [if_neg (by decide)]; exact rnd_mul t (by decide)
  rw [div30 (false, ()) (t, 4294967296, ()) (show I64 t from I64_of ht (by decide)) (show I64 4294967296 by unfold I64; decide)]
  show some (res (divS false t 4294967296)) = _
  rw [divF (by decide) (by rw [e]; exact I64_of ht (by decide)), e]
theorem half (E : Int) : E - 2 * mulV E 2147483648 ≤ 1 ∧ -1 ≤ E - 2 * mulV E 2147483648 := by
  have h := rnd_near (E * 2147483648) (show (0 : Int) < 4294967296 by decide)
  have e : mulV E 2147483648 = rnd (E * 2147483648) 4294967296 := rfl
  rw [← e] at h
  omega
theorem raw0 : (IntKind.i64.wrap (IntKind.i64.wrap (0 + IntKind.i64.wrap ((if 1 < IntKind.i64.wrap (IntKind.i64.wrap (0 + 1) + 1) then 1 else IntKind.i64.wrap (IntKind.i64.wrap (0 + 1) + 1)) * 4294967296)) + IntKind.i64.wrap ((if 1 < IntKind.i64.wrap (IntKind.i64.wrap (0 + 1) + 1) then 1 else IntKind.i64.wrap (IntKind.i64.wrap (0 + 1) + 1)) * 4294967296)) : Int) = 8589934592 := by decide
theorem raw1 : (IntKind.i64.wrap (IntKind.i64.wrap (0 + IntKind.i64.wrap ((if 1 < IntKind.i64.wrap (IntKind.i64.wrap (0 + 1) + 1) then 1 else IntKind.i64.wrap (IntKind.i64.wrap (0 + 1) + 1)) * 4294967296)) + IntKind.i64.wrap ((if 1 < IntKind.i64.wrap (0 + 1) then 1 else IntKind.i64.wrap (0 + 1)) * 4294967296)) : Int) = 8589934592 := by decide
theorem raw2 : (IntKind.i64.wrap (IntKind.i64.wrap (0 + IntKind.i64.wrap ((if 1 < IntKind.i64.wrap (IntKind.i64.wrap (0 + 1) + 1) then 1 else IntKind.i64.wrap (IntKind.i64.wrap (0 + 1) + 1)) * 4294967296)) + IntKind.i64.wrap ((if 1 < 0 then 1 else 0) * 4294967296)) : Int) = 4294967296 := by decide
theorem raw3 : (IntKind.i64.wrap (IntKind.i64.wrap (0 + IntKind.i64.wrap ((if 1 < IntKind.i64.wrap (0 + 1) then 1 else IntKind.i64.wrap (0 + 1)) * 4294967296)) + IntKind.i64.wrap ((if 1 < IntKind.i64.wrap (IntKind.i64.wrap (0 + 1) + 1) then 1 else IntKind.i64.wrap (IntKind.i64.wrap (0 + 1) + 1)) * 4294967296)) : Int) = 8589934592 := by decide
theorem raw4 : (IntKind.i64.wrap (IntKind.i64.wrap (0 + IntKind.i64.wrap ((if 1 < IntKind.i64.wrap (0 + 1) then 1 else IntKind.i64.wrap (0 + 1)) * 4294967296)) + IntKind.i64.wrap ((if 1 < IntKind.i64.wrap (0 + 1) then 1 else IntKind.i64.wrap (0 + 1)) * 4294967296)) : Int) = 8589934592 := by decide
theorem raw5 : (IntKind.i64.wrap (IntKind.i64.wrap (0 + IntKind.i64.wrap ((if 1 < IntKind.i64.wrap (0 + 1) then 1 else IntKind.i64.wrap (0 + 1)) * 4294967296)) + IntKind.i64.wrap ((if 1 < 0 then 1 else 0) * 4294967296)) : Int) = 4294967296 := by decide
theorem raw6 : (IntKind.i64.wrap (IntKind.i64.wrap (0 + IntKind.i64.wrap ((if 1 < 0 then 1 else 0) * 4294967296)) + IntKind.i64.wrap ((if 1 < IntKind.i64.wrap (IntKind.i64.wrap (0 + 1) + 1) then 1 else IntKind.i64.wrap (IntKind.i64.wrap (0 + 1) + 1)) * 4294967296)) : Int) = 4294967296 := by decide
theorem raw7 : (IntKind.i64.wrap (IntKind.i64.wrap (0 + IntKind.i64.wrap ((if 1 < 0 then 1 else 0) * 4294967296)) + IntKind.i64.wrap ((if 1 < IntKind.i64.wrap (0 + 1) then 1 else IntKind.i64.wrap (0 + 1)) * 4294967296)) : Int) = 4294967296 := by decide
abbrev Drv0 (c : Car) : Bool := (c.snd.snd.fst).fst.snd.snd.snd.snd.snd.snd.snd.fst
abbrev Drv1 (c : Car) : Bool := (c.snd.snd.fst).snd.fst.snd.snd.snd.snd.snd.snd.snd.fst
abbrev Drv2 (c : Car) : Bool := (c.snd.snd.fst).snd.snd.fst.snd.snd.snd.snd.snd.snd.snd.fst
abbrev Drv3 (c : Car) : Bool := (c.snd.snd.fst).snd.snd.snd.fst.snd.snd.snd.snd.snd.snd.snd.fst
theorem split10 (c : Car) (h : DriveC c) (t a b e f : Int) (ht : -18014398509481984 ≤ t ∧ t ≤ 18014398509481984) (ha : -17592186044416 ≤ a ∧ a ≤ 17592186044416) (hb : -17592186044416 ≤ b ∧ b ≤ 17592186044416) (he : -17592186044416 ≤ e ∧ e ≤ 17592186044416) (hf : -17592186044416 ≤ f ∧ f ≤ 17592186044416) :
    ∃ o0 o1 o2 o3 : Int, fn10 (false, ()) (c, t, (a, b, e, f, ()), ()) = some ((false, ()), (o0, o1, o2, o3, ()), ()) ∧ (Drv0 c = false → o0 = 0) ∧ (Drv1 c = false → o1 = 0) ∧ (Drv2 c = false → o2 = 0) ∧ (Drv3 c = false → o3 = 0) ∧
      (-20000000000000000 ≤ o0 ∧ o0 ≤ 20000000000000000) ∧ (-20000000000000000 ≤ o1 ∧ o1 ≤ 20000000000000000) ∧ (-20000000000000000 ≤ o2 ∧ o2 ≤ 20000000000000000) ∧ (-20000000000000000 ≤ o3 ∧ o3 ≤ 20000000000000000) ∧
      ((Drv0 c || (Drv1 c || (Drv2 c || Drv3 c))) = true → -8 ≤ o0 + o1 + o2 + o3 - t ∧ o0 + o1 + o2 + o3 - t ≤ 8) := by
  obtain ⟨E, eE, bE, E1, E2⟩ := each2 t ht
  have eT := each1 t ht
  obtain ⟨p1, q1, s1, -, -, t1, b1, b1'⟩ := share11 c h E a b bE ha hb
  obtain ⟨p2, q2, s2, -, -, t2, b2, b2'⟩ := share11 c h E e f bE he hf
  obtain ⟨p3, q3, s3, -, -, t3, b3, b3'⟩ := share11 c h t a b ht ha hb
  obtain ⟨p4, q4, s4, -, -, t4, b4, b4'⟩ := share11 c h t e f ht he hf
  have hE := half E
  have hT := half t
  unfold fn10 law10
  cases h0 : Drv0 c <;> cases h1 : Drv1 c <;> cases h2 : Drv2 c <;> cases h3 : Drv3 c <;>
    simp only [h0, h1, h2, h3, cond_true, cond_false, raw0, raw1, raw2, raw3, raw4, raw5, raw6, raw7, eE, eT, Option.bind_some, res_1, res_2, s1, s2, s3, s4] <;>
    refine ⟨_, _, _, _, rfl, ?_, ?_, ?_, ?_, ?_, ?_, ?_, ?_, ?_⟩ <;> (intros; first | omega | rfl | contradiction)
abbrev Ask := Car × Int × (Int × Int × Int × Int × Unit) × Unit
theorem stepD {d : Bool} {o : Int} {A : Option (Bool × Unit)} (h : d = false → o = 0) : (bif d then A else (bif o != 0 then some ((false, ())) else A)) = A := by
  cases d
  · rw [h rfl]; rfl
  · rfl
theorem true3 (c : Car) (t a b e f : Int) (hc : OkC c) : fn3 (c, t, (a, b, e, f, ()), ()) = some (true, ()) := by
  unfold fn3 law3
  obtain ⟨bb, hb, hfew⟩ := few6 c hc
  simp only [hb, Option.bind_some]
  cases bb
  case false => rfl
  simp only [Bool.not_true, cond_false, ex7 c (hfew rfl), Option.bind_some]
  cases h0 : (rightR c).1 != 0
  case true => rfl
  have hv := rightR_zero (show (rightR c).1 = 0 by simpa using h0)
  have hD := driveC hv
  simp only [cond_false, in8 (k := 18014398509481984) (by decide), in8 (k := 17592186044416) (by decide), Option.bind_some]
  by_cases ht : -18014398509481984 ≤ t ∧ t ≤ 18014398509481984
  case neg => rw [decide_eq_false ht]; rfl
  rw [decide_eq_true ht]
  by_cases ha : -17592186044416 ≤ a ∧ a ≤ 17592186044416
  case neg => rw [decide_eq_false ha]; rfl
  rw [decide_eq_true ha]
  by_cases hbb : -17592186044416 ≤ b ∧ b ≤ 17592186044416
  case neg => rw [decide_eq_false hbb]; rfl
  rw [decide_eq_true hbb]
  by_cases he : -17592186044416 ≤ e ∧ e ≤ 17592186044416
  case neg => rw [decide_eq_false he]; rfl
  rw [decide_eq_true he]
  by_cases hf : -17592186044416 ≤ f ∧ f ≤ 17592186044416
  case neg => rw [decide_eq_false hf]; rfl
  rw [decide_eq_true hf]
  obtain ⟨o0, o1, o2, o3, es, z0, z1, z2, z3, b0, b1, b2, b3, hs⟩ := split10 c hD t a b e f ht ha hbb he hf
  simp only [Bool.not_true, cond_false, es, Option.bind_some]
  have q0 : law3o0 (c, t, (a, b, e, f, ()), ()) ((false, ()), (o0, o1, o2, o3, ()), ()) 0 = law3o1 (c, t, (a, b, e, f, ()), ()) ((false, ()), (o0, o1, o2, o3, ()), ()) o0 := by
    unfold law3o0
    simp only
    rw [show IntKind.i64.wrap (0 + o0) = o0 by rw [i64_in _ (by omega)]; omega]
    exact stepD z0
  have q1 : law3o1 (c, t, (a, b, e, f, ()), ()) ((false, ()), (o0, o1, o2, o3, ()), ()) o0 = law3o2 (c, t, (a, b, e, f, ()), ()) ((false, ()), (o0, o1, o2, o3, ()), ()) (o0 + o1) := by
    unfold law3o1
    simp only
    rw [i64_in (o0 + o1) (by omega)]
    exact stepD z1
  have q2 : law3o2 (c, t, (a, b, e, f, ()), ()) ((false, ()), (o0, o1, o2, o3, ()), ()) (o0 + o1) = law3o3 (c, t, (a, b, e, f, ()), ()) ((false, ()), (o0, o1, o2, o3, ()), ()) (o0 + o1 + o2) := by
    unfold law3o2
    simp only
    rw [i64_in (o0 + o1 + o2) (by omega)]
    exact stepD z2
  have q3 : law3o3 (c, t, (a, b, e, f, ()), ()) ((false, ()), (o0, o1, o2, o3, ()), ()) (o0 + o1 + o2) = law3o4 (c, t, (a, b, e, f, ()), ()) ((false, ()), (o0, o1, o2, o3, ()), ()) (o0 + o1 + o2 + o3) := by
    unfold law3o3
    simp only
    rw [i64_in (o0 + o1 + o2 + o3) (by omega)]
    exact stepD z3
  rw [q0, q1, q2, q3]
  unfold law3o4
  simp only [Bool.not_false, cond_true, in8 (k := 8) (by decide), Option.bind_some]
  cases hd : (Drv0 c || (Drv1 c || (Drv2 c || Drv3 c)))
  · simp only [Bool.or_eq_false_iff] at hd
    obtain ⟨d0, d1, d2, d3⟩ := hd
    rw [z0 d0, z1 d1, z2 d2, z3 d3]
    simp only [Drv0, Drv1, Drv2, Drv3] at d0 d1 d2 d3
    simp only [d0, d1, d2, d3, Bool.or_self, cond_false]
    rfl
  · have hs := hs hd
    have hd' : ((((false || Drv0 c) || Drv1 c) || Drv2 c) || Drv3 c) = true := by
      rw [← hd]
      cases Drv0 c <;> cases Drv1 c <;> cases Drv2 c <;> cases Drv3 c <;> rfl
    simp only [Drv0, Drv1, Drv2, Drv3] at hd'
    simp only [hd', cond_true]
    rw [i64_in (o0 + o1 + o2 + o3 - t) (by omega)]
    rw [decide_eq_true (show -8 ≤ o0 + o1 + o2 + o3 - t ∧ o0 + o1 + o2 + o3 - t ≤ 8 from hs)]
    rfl
theorem true3o (y : Sh.Ts [CarSh, .int .i64, .st [.int .i64, .int .i64, .int .i64, .int .i64]]) (hy : Sh.oks [CarSh, .int .i64, .st [.int .i64, .int .i64, .int .i64, .int .i64]] y) : fn3 y = some (true, ()) := true3 y.1 y.2.1 y.2.2.1.1 y.2.2.1.2.1 y.2.2.1.2.2.1 y.2.2.1.2.2.2.1 (okC hy.1)

end Go.Proofs.Ytlpnlhokheohgaa
