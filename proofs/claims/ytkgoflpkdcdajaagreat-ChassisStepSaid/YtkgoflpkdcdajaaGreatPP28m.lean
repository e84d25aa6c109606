/- Plain Lean: what the laws of this program's functions come to, in numbers and lists; no program is run here. -/
import Derived.Test.YtkgoflpkdcdajaaGreatPPBod
set_option linter.unusedVariables false
set_option linter.unusedSimpArgs false
set_option maxRecDepth 100000
namespace Go.Proofs.YtkgoflpkdcdajaaGreat
open Go Go.Ab Go.Proofs Go.IntWalk
def Tab (t : List Dot) : Prop := (t.length : Int) < 2 ^ 61 ∧ ∀ d ∈ t, OkD d
theorem ev32 (m : MT) (x : List Dot × Int × Unit) (ht : Tab x.1) (hx : I64 x.2.1) : fn32 m x = some ((m.1 || evO x.1 x.2.1, ()), evV x.1 x.2.1, ()) := by rw [eval10 m x ht.1 ht.2 hx, evalS_eq]; rfl
theorem ar11 (m : MT) (x : CarT × V3T × Unit) (ht : Tab x.1.2.2.2.2.2.2.2.1) (hv : V64 x.2.1) : fn11 m x = some ((m.1 || arO x.1.2.2.2.2.2.2.2.1 x.2.1, ()), arV x.1.2.2.2.2.2.2.2.1 x.2.1, ()) := by
  have hN := lenV_r (sq3_nn x.2.1)
  have e := len28' m (x.2.1, ()) hv
  show law11 m x = _; unfold law11
  refine (bindT' e).trans ?_
  unfold arO arV
  by_cases h0 : lenV (sq3 x.2.1) = 0
  · rw [if_pos h0, if_pos h0]
    refine (bifT' (by simpa using h0)).trans ?_
    simp only [Bool.or_false]
  · rw [if_neg h0, if_neg h0]
    refine (bifF' (by simpa using h0)).trans ?_
    generalize lenV (sq3 x.2.1) = n at *
    generalize lenO (sq3 x.2.1) = o at *
    have hE := evV_r x.1.2.2.2.2.2.2.2.1 n ht.2
    have e1 := fun k => vd30 k (x.2.1, n, ()) hv hN
    have e2 := fun k => ev32 k (x.1.2.2.2.2.2.2.2.1, n, ()) ht hN
    have e3 := fun k => neg31' k (evV x.1.2.2.2.2.2.2.2.1 n, ()) hE
    have e4 := fun k => vm29 k (vdV x.2.1 n, zv 0 (evV x.1.2.2.2.2.2.2.2.1 n), ()) (vdV_r _ _) (zv_r _ _)
    refine (bindT' (e1 _)).trans ((bindT' (e2 _)).trans ((bindT' (e3 _)).trans ((bindT' (e4 _)).trans ?_)))
    simp only [Bool.or_assoc]
theorem gy17 (m : MT) (x : CarT × V3T × Unit) (hJ : V64 x.1.2.1) (hw : V64 x.2.1) : fn17 m x = some ((m.1 || gyO x.1.2.1 x.2.1, ()), gyV x.1.2.1 x.2.1, ()) := by
  obtain ⟨h1, h2, h3⟩ := hJ
  obtain ⟨k1, k2, k3⟩ := hw
  have e4 := fun k => vc47 k (x.2.1, jwV x.1.2.1 x.2.1, ()) ⟨k1, k2, k3⟩ (jwV_r _ _)
  show law17 m x = _; unfold law17
  refine (bindT' (mul40 _ (x.1.2.1.1, x.2.1.1, ()) h1 k1)).trans ((bindT' (mul40 _ (x.1.2.1.2.1, x.2.1.2.1, ()) h2 k2)).trans ((bindT' (mul40 _ (x.1.2.1.2.2.1, x.2.1.2.2.1, ()) h3 k3)).trans ((bindT' (e4 _)).trans ?_)))
  unfold gyO gyV
  simp only [Bool.or_assoc]
theorem on55 (m : MT) (x : V3T × V3T × Int × Int × Unit) (hv : V64 x.1) (ha : V64 x.2.1) (ht : I64 x.2.2.1) : fn55 m x = some ((m.1 || onO x.1 x.2.1 x.2.2.1, ()), onV x.1 x.2.1 x.2.2.1 x.2.2.2.1, ()) := by
  show law55 m x = _; unfold law55
  refine (bindT' (vm29 _ (x.2.1, x.2.2.1, ()) ha ht)).trans ((bindT' (va56 _ (x.1, vmV x.2.1 x.2.2.1, ()) hv (vmV_r _ _))).trans ((bindT' (vk23 _)).trans ?_))
  unfold onO onV
  simp only [Bool.or_assoc]
theorem loopP_eq {β : Type} (l : List PushT) (k : MT → V3T → Option β) (hl : P64 l) : ∀ (j n i : Nat) (o : Bool) (v : V3T), i + j = l.length → j < n → i + j < 1000 → V64 v → loopP l k n i (o, ()) v = k (o || psO v (l.drop i), ()) (psV v (l.drop i))
  | _, 0, _, _, _, _, h, _, _ => by omega
  | 0, n + 1, i, o, v, h1, h2, h3, h4 => by
    rw [List.drop_eq_nil_of_le (by omega)]
    refine (bifF' (by rw [decide_eq_false_iff_not]; omega)).trans ?_
    simp only [psO, psV, Bool.or_false]
  | j + 1, n + 1, i, o, v, h1, h2, h3, h4 => by
    have hi : i < l.length := by omega
    have hp := hl _ (List.getElem_mem hi)
    rw [List.drop_eq_getElem_cons hi]
    refine (bifT' (decide_eq_true (by omega))).trans ((bifT' (by rw [decide_eq_true (show (0 : Int) ≤ (i : Int) by omega), decide_eq_true (show (i : Int) < (l.length : Int) by omega)]; rfl)).trans ?_)
    have eg : l[Int.toNat (i : Int)]? = some l[i] := by rw [Int.toNat_natCast, List.getElem?_eq_getElem hi]
    refine (bindT' eg).trans ((bindT' (va56 _ (v, l[i].1, ()) h4 hp.1)).trans ?_)
    have ew : IntKind.i64.wrap ((i : Int) + 1) = ((i + 1 : Nat) : Int) := by rw [IntKind.wrap_i64]; omega
    rw [ew]
    refine (loopP_eq l k hl j n (i + 1) _ _ (by omega) (by omega) (by omega) (vaV_r _ _)).trans ?_
    simp only [psO, psV, Bool.or_assoc]
theorem fo13 (m : MT) (x : CarT × BodyT × (List PushT) × Unit) (hm : I64 x.1.1) (ht : Tab x.1.2.2.2.2.2.2.2.1) (hv : V64 x.2.1.2.1) (hl : P64 x.2.2.1) (hn : x.2.2.1.length ≤ 20) :
    fn13 m x = some ((m.1 || foO x.1.1 x.1.2.2.2.2.2.2.2.1 x.2.1.2.1 x.2.2.1, ()), foV x.1.1 x.1.2.2.2.2.2.2.2.1 x.2.1.2.1 x.2.2.1, ()) := by
  show law13 m x = _
  unfold law13
  have hG : I64 42133629174 := by unfold I64; omega
  have hw := wtV_r x.1.1
  refine (bindT' (mul40 _ (x.1.1, 42133629174, ()) hm hG)).trans ((bindT' (neg31' _ (mv x.1.1 42133629174, ()) (mv_r _ _))).trans ((bindT' (va56 _ ((0, 0, 0, ()), wtV x.1.1, ()) Z64 hw)).trans ?_))
  obtain ⟨z1, z2⟩ := va_zero hw
  rw [z1, z2]
  refine (bindT' (ar11 _ (x.1, x.2.1.2.1, ()) ht hv)).trans ((bindT' (va56 _ (wtV x.1.1, arV x.1.2.2.2.2.2.2.2.1 x.2.1.2.1, ()) hw (arV_r _ _))).trans ?_)
  refine (loopP_eq x.2.2.1 _ hl x.2.2.1.length 22 0 _ _ (by omega) (by omega) (by omega) (vaV_r _ _)).trans ((bindT' (vk23 _)).trans ?_)
  unfold foO foV f0V wtO
  simp only [Bool.or_assoc, Bool.or_false, List.drop_zero]
theorem loopT_eq {β : Type} (l : List PushT) (k : MT → V3T → Option β) (hl : P64 l) : ∀ (j n i : Nat) (o : Bool) (v : V3T), i + j = l.length → j < n → i + j < 1000 → V64 v → loopT l k n i (o, ()) v = k (o || tqO v (l.drop i), ()) (tqV v (l.drop i))
  | _, 0, _, _, _, _, h, _, _ => by omega
  | 0, n + 1, i, o, v, h1, h2, h3, h4 => by
    rw [List.drop_eq_nil_of_le (by omega)]
    refine (bifF' (by rw [decide_eq_false_iff_not]; omega)).trans ?_
    simp only [tqO, tqV, Bool.or_false]
  | j + 1, n + 1, i, o, v, h1, h2, h3, h4 => by
    have hi : i < l.length := by omega
    have hp := hl _ (List.getElem_mem hi)
    rw [List.drop_eq_getElem_cons hi]
    refine (bifT' (decide_eq_true (by omega))).trans ((bifT' (by rw [decide_eq_true (show (0 : Int) ≤ (i : Int) by omega), decide_eq_true (show (i : Int) < (l.length : Int) by omega)]; rfl)).trans ?_)
    have eg : l[Int.toNat (i : Int)]? = some l[i] := by rw [Int.toNat_natCast, List.getElem?_eq_getElem hi]
    refine (bindT' eg).trans ((bindT' (vc47 _ (l[i].2.1, l[i].1, ()) hp.2 hp.1)).trans ((bindT' (va56 _ (v, vcV l[i].2.1 l[i].1, ()) h4 (vcV_r _ _))).trans ?_))
    have ew : IntKind.i64.wrap ((i : Int) + 1) = ((i + 1 : Nat) : Int) := by rw [IntKind.wrap_i64]; omega
    rw [ew]
    refine (loopT_eq l k hl j n (i + 1) _ _ (by omega) (by omega) (by omega) (vaV_r _ _)).trans ?_
    simp only [tqO, tqV, Bool.or_assoc]
theorem law15_loop (m : MT) (x : (List PushT) × Unit) (h : (0 : Int) < (↑(List.length x.fst) : Int)) : law15 m x = loopT x.fst (endT 288230376151711744) (23 + 1) 0 m (0, 0, 0, ()) := by
  unfold law15
  rw [loopT]
  exact (bifT' (decide_eq_true h)).trans (bifT' (decide_eq_true h)).symm
theorem to15 (m : MT) (x : (List PushT) × Unit) (hl : P64 x.1) (hn : x.1.length ≤ 20) : fn15 m x = some ((m.1 || toO x.1, ()), toV x.1, ()) := by
  show law15 m x = _
  by_cases h0 : (0 : Int) < (x.1.length : Int)
  · refine (law15_loop m x h0).trans ((loopT_eq x.1 _ hl x.1.length 24 0 _ _ (by omega) (by omega) (by omega) Z64).trans ((bindT' (vk23 _)).trans ?_))
    unfold toO toV
    simp only [List.drop_zero]
  · unfold law15
    refine (bifF' (decide_eq_false h0)).trans ?_
    obtain ⟨l, _⟩ := x
    obtain rfl : l = [] := List.eq_nil_of_length_eq_zero (by simp only at h0; omega)
    unfold toO toV tqO tqV
    rw [Bool.or_false]
    rfl
structure Ask (x : CarT × BodyT × (List PushT) × Int × Unit) : Prop where
  m : I64 x.1.1
  J : V64 x.1.2.1
  t : Tab x.1.2.2.2.2.2.2.2.1
  p : V64 x.2.1.1
  v : V64 x.2.1.2.1
  q : Q64 x.2.1.2.2.1
  w : V64 x.2.1.2.2.2.1
  l : P64 x.2.2.1
  n : x.2.2.1.length ≤ 20
  dt : I64 x.2.2.2.1
theorem st20 (m : MT) (x : CarT × BodyT × (List PushT) × Int × Unit) (h : Ask x) : fn20 m x = some ((m.1 || stO x.1.1 x.1.2.1 x.1.2.2.2.2.2.2.2.1 x.2.1 x.2.2.1 x.2.2.2.1, ()), stV x.1.1 x.1.2.1 x.1.2.2.2.2.2.2.2.1 x.2.1 x.2.2.1 x.2.2.2.1, ()) := by
  obtain ⟨hm, hJ, ht, hp, hv, hq, hw, hl, hn, hd⟩ := h
  have e0 := fun k => fo13 k (x.1, x.2.1, x.2.2.1, ()) hm ht hv hl hn
  have e1 := fun k => vd30 k (foV x.1.1 x.1.2.2.2.2.2.2.2.1 x.2.1.2.1 x.2.2.1, x.1.1, ()) (foV_r _ _ _ _) hm
  have e2 := fun k => mx52 k (x.2.1.2.2.1, ()) hq
  have e3 := fun k => to15 k (x.2.2.1, ()) hl hn
  have e4 := fun k => bk51 k (mxV x.2.1.2.2.1, toV x.2.2.1, ()) (mxV_r _) (toV_r _)
  have e5 := fun k => gy17 k (x.1, x.2.1.2.2.2.1, ()) hJ hw
  have e6 := fun k => vs53 k (bkV (mxV x.2.1.2.2.1) (toV x.2.2.1), gyV x.1.2.1 x.2.1.2.2.2.1, ()) (bkV_r _ _) (gyV_r _ _)
  have hu := tuV_r x.2.1 x.1.2.1 x.2.2.1
  have e7 := fun k => div54 k ((tuV x.2.1 x.1.2.1 x.2.2.1).1, x.1.2.1.1, ()) hu.1 hJ.1
  have e8 := fun k => div54 k ((tuV x.2.1 x.1.2.1 x.2.2.1).2.1, x.1.2.1.2.1, ()) hu.2.1 hJ.2.1
  have e9 := fun k => div54 k ((tuV x.2.1 x.1.2.1 x.2.2.1).2.2.1, x.1.2.1.2.2.1, ()) hu.2.2 hJ.2.2
  have e10 := fun k => on55 k (x.2.1.2.1, stA x.1.1 x.1.2.2.2.2.2.2.2.1 x.2.1 x.2.2.1, x.2.2.2.1, 549755813888, ()) hv (vdV_r _ _) hd
  have e11 := fun k => on55 k (x.2.1.2.2.2.1, dvJ (tuV x.2.1 x.1.2.1 x.2.2.1) x.1.2.1, x.2.2.2.1, 137438953472, ()) hw (dvJ_r _ _) hd
  have e12 := fun k => vm29 k (stS x.1.1 x.1.2.2.2.2.2.2.2.1 x.2.1 x.2.2.1 x.2.2.2.1, x.2.2.2.1, ()) (stS_r _ _ _ _ _) hd
  have e13 := fun k => va56 k (x.2.1.1, vmV (stS x.1.1 x.1.2.2.2.2.2.2.2.1 x.2.1 x.2.2.1 x.2.2.2.1) x.2.2.2.1, ()) hp (vmV_r _ _)
  have e14 := fun k => qs57 k (x.2.1.2.2.1, stW x.1.2.1 x.2.1 x.2.2.1 x.2.2.2.1, x.2.2.2.1, ()) hq (stW_r _ _ _ _) hd
  show law20 m x = _; unfold law20
  refine (bindT' (e0 _)).trans ?_
  refine (bindT' (e1 _)).trans ?_
  refine (bindT' (e2 _)).trans ?_
  refine (bindT' (e3 _)).trans ?_
  refine (bindT' (e4 _)).trans ?_
  refine (bindT' (e5 _)).trans ?_
  refine (bindT' (e6 _)).trans ?_
  refine (bindT' (e7 _)).trans ?_
  refine (bindT' (e8 _)).trans ?_
  refine (bindT' (e9 _)).trans ?_
  refine (bindT' (e10 _)).trans ?_
  refine (bindT' (e11 _)).trans ?_
  refine (bindT' (e12 _)).trans ?_
  refine (bindT' (e13 _)).trans ?_
  refine (bindT' (e14 _)).trans ?_
  unfold stO stV dOJ
  simp only [Bool.or_assoc]
  rfl
end Go.Proofs.YtkgoflpkdcdajaaGreat
