/- Plain Lean: what the laws of this program's functions come to, in numbers and lists; no program is run here. -/
import Derived.Test.YtkgoflpkdcdajaaGreatPP28q
set_option linter.unusedVariables false
set_option linter.unusedSimpArgs false
set_option maxRecDepth 100000
namespace Go.Proofs.YtkgoflpkdcdajaaGreat
open Go Go.Ab Go.Proofs Go.IntWalk
theorem ev37 (m : Mx1T) (x : List Dot × Int × Unit) (ht : (x.1.length : Int) < 2 ^ 61 ∧ ∀ d ∈ x.1, OkD d) (hx : I64 x.2.1) : fn37 m x = some ((m.1 || evO x.1 x.2.1, ()), evV x.1 x.2.1, ()) := by rw [eval11 m x ht.1 ht.2 hx, evalS_eq]; rfl
theorem ar12 (m : Mx1T) (x : CarT × V3T × Unit) (ht : (x.1.2.2.2.2.2.2.2.1.length : Int) < 2 ^ 61 ∧ ∀ d ∈ x.1.2.2.2.2.2.2.2.1, OkD d) (hv : V64 x.2.1) : fn12 m x = some ((m.1 || arO x.1.2.2.2.2.2.2.2.1 x.2.1, ()), arV x.1.2.2.2.2.2.2.2.1 x.2.1, ()) := by
  have hN := lenV_r (sq3_nn x.2.1)
  have e := len33 m (x.2.1, ()) hv
  show law12 m x = _; unfold law12
  refine (bindT' e).trans ?_
  unfold arO arV
  by_cases h0 : lenV (sq3 x.2.1) = 0
  · rw [if_pos h0, if_pos h0]
    refine (bifT' (by simpa using h0)).trans ?_
    simp only [Bool.or_false]
  · rw [if_neg h0, if_neg h0]
    refine (bifF' (by simpa using h0)).trans ?_
    generalize lenV (sq3 x.2.1) = n at *
    generalize lenO (sq3 x.2.1) = o at *
    have hE := evV_r x.1.2.2.2.2.2.2.2.1 n ht.2
    have e1 := fun k => vd35 k (x.2.1, n, ()) hv hN
    have e2 := fun k => ev37 k (x.1.2.2.2.2.2.2.2.1, n, ()) ht hN
    have e3 := fun k => neg36 k (evV x.1.2.2.2.2.2.2.2.1 n, ()) hE
    have e4 := fun k => vm34 k (vdV x.2.1 n, zv 0 (evV x.1.2.2.2.2.2.2.2.1 n), ()) (vdV_r _ _) (zv_r _ _)
    refine (bindT' (e1 _)).trans ((bindT' (e2 _)).trans ((bindT' (e3 _)).trans ((bindT' (e4 _)).trans ?_)))
    simp only [Bool.or_assoc]
theorem gy18 (m : Mx1T) (x : CarT × V3T × Unit) (hJ : V64 x.1.2.1) (hw : V64 x.2.1) : fn18 m x = some ((m.1 || gyO x.1.2.1 x.2.1, ()), gyV x.1.2.1 x.2.1, ()) := by
  obtain ⟨h1, h2, h3⟩ := hJ
  obtain ⟨k1, k2, k3⟩ := hw
  have e4 := fun k => vc48 k (x.2.1, jwV x.1.2.1 x.2.1, ()) ⟨k1, k2, k3⟩ (jwV_r _ _)
  show law18 m x = _; unfold law18
  refine (bindT' (mul42 _ (x.1.2.1.1, x.2.1.1, ()) h1 k1)).trans ((bindT' (mul42 _ (x.1.2.1.2.1, x.2.1.2.1, ()) h2 k2)).trans ((bindT' (mul42 _ (x.1.2.1.2.2.1, x.2.1.2.2.1, ()) h3 k3)).trans ((bindT' (e4 _)).trans ?_)))
  unfold gyO gyV
  simp only [Bool.or_assoc]
theorem loop14 {β : Type} (N : Nat) (x : CarT × BodyT × (List PushT) × Unit) (k : Bool → Int → Int → Int → Option β) (hl : P64 x.2.2.1) : ∀ (j n i : Nat) (o : Bool) (v : V3T), i + j = x.2.2.1.length → j < n → i + j < 1000 → V64 v → law14o0 N x k n i o v.1 v.2.1 v.2.2.1 = k (o || psO v (x.2.2.1.drop i)) (psV v (x.2.2.1.drop i)).1 (psV v (x.2.2.1.drop i)).2.1 (psV v (x.2.2.1.drop i)).2.2.1
  | _, 0, _, _, _, _, h, _, _ => by omega
  | 0, n + 1, i, o, v, h1, h2, h3, h4 => by
    rw [List.drop_eq_nil_of_le (by omega)]
    refine (bifF' (by rw [decide_eq_false_iff_not]; omega)).trans ?_
    simp only [psO, psV, Bool.or_false]
  | j + 1, n + 1, i, o, v, h1, h2, h3, h4 => by
    have hi : i < x.2.2.1.length := by omega
    have hp := hl _ (List.getElem_mem hi)
    rw [List.drop_eq_getElem_cons hi]
    refine (bifT' (decide_eq_true (by omega))).trans ((bifT' (by rw [decide_eq_true (show (0 : Int) ≤ (i : Int) by omega), decide_eq_true (show (i : Int) < (x.2.2.1.length : Int) by omega)]; rfl)).trans ?_)
    have eg : x.2.2.1[Int.toNat (i : Int)]? = some x.2.2.1[i] := by rw [Int.toNat_natCast, List.getElem?_eq_getElem hi]
    refine (bindT' eg).trans ((bindT' (va44 _ (v, x.2.2.1[i].1, ()) h4 hp.1)).trans ?_)
    have ew : IntKind.i64.wrap ((i : Int) + 1) = ((i + 1 : Nat) : Int) := by rw [IntKind.wrap_i64]; omega
    rw [ew]
    refine (loop14 N x k hl j n (i + 1) _ _ (by omega) (by omega) (by omega) (vaV_r _ _)).trans ?_
    simp only [psO, psV, Bool.or_assoc]
theorem law14_eq (N : Nat) (m : Mx1T) (x : CarT × BodyT × (List PushT) × Unit) : law14 N m x = Option.bind (fn42 m (x.fst.fst, 42133629174, ())) fun v0 => Option.bind (fn36 v0.fst v0.snd) fun v1 => Option.bind (fn12 v1.fst (x.fst, x.snd.fst.snd.fst, ())) fun v2 => Option.bind (fn44 v2.fst ((0, 0, v1.snd), v2.snd)) fun v3 =>
    law14o0 N x (fun w34 w35 w36 w37 => Option.bind (fn45 ((w35, w36, w37, ()), 18014398509481984, ())) fun v38 => some (((w34, ()), (v38.fst.fst, v38.fst.snd.fst, v38.fst.snd.snd.fst, ()), ()))) N 0 v3.fst.fst v3.snd.fst.fst v3.snd.fst.snd.fst v3.snd.fst.snd.snd.fst := by kernel_rfl
theorem lx14 (N : Nat) (hN : 100 ≤ N) (m : Mx1T) (x : CarT × BodyT × (List PushT) × Unit) (hm : I64 x.1.1) (ht : (x.1.2.2.2.2.2.2.2.1.length : Int) < 2 ^ 61 ∧ ∀ d ∈ x.1.2.2.2.2.2.2.2.1, OkD d) (hv : V64 x.2.1.2.1) (hl : P64 x.2.2.1) (hn : x.2.2.1.length ≤ 20) :
    law14 N m x = some ((m.1 || foO x.1.1 x.1.2.2.2.2.2.2.2.1 x.2.1.2.1 x.2.2.1, ()), foV x.1.1 x.1.2.2.2.2.2.2.2.1 x.2.1.2.1 x.2.2.1, ()) := by
  rw [law14_eq]
  have hG : I64 42133629174 := by unfold I64; omega
  have hw := wtV_r x.1.1
  refine (bindT' (mul42 _ (x.1.1, 42133629174, ()) hm hG)).trans ((bindT' (neg36 _ (mv x.1.1 42133629174, ()) (mv_r _ _))).trans ?_)
  refine (bindT' (ar12 _ (x.1, x.2.1.2.1, ()) ht hv)).trans ((bindT' (va44 _ (wtV x.1.1, arV x.1.2.2.2.2.2.2.2.1 x.2.1.2.1, ()) hw (arV_r _ _))).trans ?_)
  refine (loop14 N x _ hl x.2.2.1.length N 0 _ (vaV (wtV x.1.1) (arV x.1.2.2.2.2.2.2.2.1 x.2.1.2.1)) (by omega) (by omega) (by omega) (vaV_r _ _)).trans ((bindT' (vk45 _)).trans ?_)
  unfold foO foV f0V wtO
  simp only [Bool.or_assoc, List.drop_zero]
theorem fo14 (m : Mx1T) (x : CarT × BodyT × (List PushT) × Unit) (hm : I64 x.1.1) (ht : (x.1.2.2.2.2.2.2.2.1.length : Int) < 2 ^ 61 ∧ ∀ d ∈ x.1.2.2.2.2.2.2.2.1, OkD d) (hv : V64 x.2.1.2.1) (hl : P64 x.2.2.1) (hn : x.2.2.1.length ≤ 20) :
    fn14 m x = some ((m.1 || foO x.1.1 x.1.2.2.2.2.2.2.2.1 x.2.1.2.1 x.2.2.1, ()), foV x.1.1 x.1.2.2.2.2.2.2.2.1 x.2.1.2.1 x.2.2.1, ()) := lx14 _ (by decide) m x hm ht hv hl hn
theorem loop16 {β : Type} (N : Nat) (x : (List PushT) × Unit) (k : Bool → Int → Int → Int → Option β) (hl : P64 x.1) : ∀ (j n i : Nat) (o : Bool) (v : V3T), i + j = x.1.length → j < n → i + j < 1000 → V64 v → law16o0 N x k n i o v.1 v.2.1 v.2.2.1 = k (o || tqO v (x.1.drop i)) (tqV v (x.1.drop i)).1 (tqV v (x.1.drop i)).2.1 (tqV v (x.1.drop i)).2.2.1
  | _, 0, _, _, _, _, h, _, _ => by omega
  | 0, n + 1, i, o, v, h1, h2, h3, h4 => by
    rw [List.drop_eq_nil_of_le (by omega)]
    refine (bifF' (by rw [decide_eq_false_iff_not]; omega)).trans ?_
    simp only [tqO, tqV, Bool.or_false]
  | j + 1, n + 1, i, o, v, h1, h2, h3, h4 => by
    have hi : i < x.1.length := by omega
    have hp := hl _ (List.getElem_mem hi)
    rw [List.drop_eq_getElem_cons hi]
    have hc : (decide ((0 : Int) ≤ (i : Int)) && decide ((i : Int) < (x.1.length : Int))) = true := by rw [decide_eq_true (show (0 : Int) ≤ (i : Int) by omega), decide_eq_true (show (i : Int) < (x.1.length : Int) by omega)]; rfl
    have eg : x.1[Int.toNat (i : Int)]? = some x.1[i] := by rw [Int.toNat_natCast, List.getElem?_eq_getElem hi]
    refine (bifT' (decide_eq_true (by omega))).trans ((bifT' hc).trans ((bindT' eg).trans ((bifT' hc).trans ((bindT' eg).trans ?_))))
    refine (bindT' (vc48 _ (x.1[i].2.1, x.1[i].1, ()) hp.2 hp.1)).trans ((bindT' (va44 _ (v, vcV x.1[i].2.1 x.1[i].1, ()) h4 (vcV_r _ _))).trans ?_)
    have ew : IntKind.i64.wrap ((i : Int) + 1) = ((i + 1 : Nat) : Int) := by rw [IntKind.wrap_i64]; omega
    rw [ew]
    refine (loop16 N x k hl j n (i + 1) _ _ (by omega) (by omega) (by omega) (vaV_r _ _)).trans ?_
    simp only [tqO, tqV, Bool.or_assoc]
theorem lx16 (N : Nat) (hN : 100 ≤ N) (m : Mx1T) (x : (List PushT) × Unit) (hl : P64 x.1) (hn : x.1.length ≤ 20) : law16 N m x = some ((m.1 || toO x.1, ()), toV x.1, ()) := by
  unfold law16
  refine (loop16 N x _ hl x.1.length N 0 m.1 (0, 0, 0, ()) (by omega) (by omega) (by omega) Z64).trans ((bindT' (vk45 _)).trans ?_)
  unfold toO toV
  simp only [List.drop_zero]
theorem to16 (m : Mx1T) (x : (List PushT) × Unit) (hl : P64 x.1) (hn : x.1.length ≤ 20) : fn16 m x = some ((m.1 || toO x.1, ()), toV x.1, ()) := lx16 _ (by decide) m x hl hn
theorem st21 (m : Mx1T) (x : CarT × BodyT × (List PushT) × Int × Unit) (hm : I64 x.1.1) (hJ : V64 x.1.2.1) (ht : (x.1.2.2.2.2.2.2.2.1.length : Int) < 2 ^ 61 ∧ ∀ d ∈ x.1.2.2.2.2.2.2.2.1, OkD d) (hp : V64 x.2.1.1) (hv : V64 x.2.1.2.1) (hq : Q64 x.2.1.2.2.1) (hw : V64 x.2.1.2.2.2.1) (hl : P64 x.2.2.1) (hn : x.2.2.1.length ≤ 20) (hd : I64 x.2.2.2.1) :
    fn21 m x = some ((m.1 || stO x.1.1 x.1.2.1 x.1.2.2.2.2.2.2.2.1 x.2.1 x.2.2.1 x.2.2.2.1, ()), stV x.1.1 x.1.2.1 x.1.2.2.2.2.2.2.2.1 x.2.1 x.2.2.1 x.2.2.2.1, ()) := by
  have e0 := fun k => fo14 k (x.1, x.2.1, x.2.2.1, ()) hm ht hv hl hn
  have e1 := fun k => vd35 k (foV x.1.1 x.1.2.2.2.2.2.2.2.1 x.2.1.2.1 x.2.2.1, x.1.1, ()) (foV_r _ _ _ _) hm
  have e2 := fun k => vm34 k (stA x.1.1 x.1.2.2.2.2.2.2.2.1 x.2.1 x.2.2.1, x.2.2.2.1, ()) (vdV_r _ _) hd
  have e3 := fun k => va44 k (x.2.1.2.1, vmV (stA x.1.1 x.1.2.2.2.2.2.2.2.1 x.2.1 x.2.2.1) x.2.2.2.1, ()) hv (vmV_r _ _)
  have e4 := vk45 (vaV x.2.1.2.1 (vmV (stA x.1.1 x.1.2.2.2.2.2.2.2.1 x.2.1 x.2.2.1) x.2.2.2.1), 549755813888, ())
  have e5 := fun k => mx59 k (x.2.1.2.2.1, ()) hq
  have e6 := fun k => to16 k (x.2.2.1, ()) hl hn
  have e7 := fun k => bk58 k (mxV x.2.1.2.2.1, toV x.2.2.1, ()) (mxV_r _) (toV_r _)
  have e8 := fun k => gy18 k (x.1, x.2.1.2.2.2.1, ()) hJ hw
  have e9 := fun k => vs60 k (bkV (mxV x.2.1.2.2.1) (toV x.2.2.1), gyV x.1.2.1 x.2.1.2.2.2.1, ()) (bkV_r _ _) (gyV_r _ _)
  have hu := tuV_r x.2.1 x.1.2.1 x.2.2.1
  have e10 := fun k => div61 k ((tuV x.2.1 x.1.2.1 x.2.2.1).1, x.1.2.1.1, ()) hu.1 hJ.1
  have e11 := fun k => div61 k ((tuV x.2.1 x.1.2.1 x.2.2.1).2.1, x.1.2.1.2.1, ()) hu.2.1 hJ.2.1
  have e12 := fun k => div61 k ((tuV x.2.1 x.1.2.1 x.2.2.1).2.2.1, x.1.2.1.2.2.1, ()) hu.2.2 hJ.2.2
  have e13 := fun k => vm34 k (dvJ (tuV x.2.1 x.1.2.1 x.2.2.1) x.1.2.1, x.2.2.2.1, ()) (dvJ_r _ _) hd
  have e14 := fun k => va44 k (x.2.1.2.2.2.1, vmV (dvJ (tuV x.2.1 x.1.2.1 x.2.2.1) x.1.2.1) x.2.2.2.1, ()) hw (vmV_r _ _)
  have e15 := vk45 (vaV x.2.1.2.2.2.1 (vmV (dvJ (tuV x.2.1 x.1.2.1 x.2.2.1) x.1.2.1) x.2.2.2.1), 137438953472, ())
  have e16 := fun k => vm34 k (stS x.1.1 x.1.2.2.2.2.2.2.2.1 x.2.1 x.2.2.1 x.2.2.2.1, x.2.2.2.1, ()) (stS_r _ _ _ _ _) hd
  have e17 := fun k => va44 k (x.2.1.1, vmV (stS x.1.1 x.1.2.2.2.2.2.2.2.1 x.2.1 x.2.2.1 x.2.2.2.1) x.2.2.2.1, ()) hp (vmV_r _ _)
  have e18 := fun k => qs62 k (x.2.1.2.2.1, stW x.1.2.1 x.2.1 x.2.2.1 x.2.2.2.1, x.2.2.2.1, ()) hq (stW_r _ _ _ _) hd
  show law21 m x = _; unfold law21
  refine (bindT' (e0 _)).trans ?_
  refine (bindT' (e1 _)).trans ?_
  refine (bindT' (e2 _)).trans ?_
  refine (bindT' (e3 _)).trans ?_
  refine (bindT' e4).trans ?_
  refine (bindT' (e5 _)).trans ?_
  refine (bindT' (e6 _)).trans ?_
  refine (bindT' (e7 _)).trans ?_
  refine (bindT' (e8 _)).trans ?_
  refine (bindT' (e9 _)).trans ?_
  refine (bindT' (e10 _)).trans ?_
  refine (bindT' (e11 _)).trans ?_
  refine (bindT' (e12 _)).trans ?_
  refine (bindT' (e13 _)).trans ?_
  refine (bindT' (e14 _)).trans ?_
  refine (bindT' e15).trans ?_
  refine (bindT' (e16 _)).trans ?_
  refine (bindT' (e17 _)).trans ?_
  refine (bindT' (e18 _)).trans ?_
  unfold stO stV dOJ onO
  simp only [Bool.or_assoc]
  refine congrArg (fun b : Bool => some ((b, ()), _, ())) ?_
  unfold stS onV stA
  ac_rfl
end Go.Proofs.YtkgoflpkdcdajaaGreat
