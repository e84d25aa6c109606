/- Plain Lean: what the laws of this program's functions come to, in numbers and lists; no program is run here. -/
import Derived.Test.YtamdbejojnfoiaaPP17d
set_option linter.unusedVariables false
set_option linter.unusedSimpArgs false
set_option maxRecDepth 100000
namespace Go.Proofs.Ytamdbejojnfoiaa
open Go Go.Ab Go.Proofs Go.IntWalk
/- The document's Right in plain Lean (r17). -/
theorem ex19 (x : Int × Int × Int × Unit) : fn19 x = some (inB x, ()) := by
  obtain ⟨a, lo, hi, u⟩ := x
  unfold fn19 law19 inB
  show (bif decide ((lo : Int) ≤ a) then some (decide ((a : Int) ≤ hi), ()) else some (false, ())) = some (decide ((lo : Int) ≤ a) && decide ((a : Int) ≤ hi), ())
  cases decide ((lo : Int) ≤ a) <;> rfl
theorem ex16 (b : Bool) : fn16 (b, ()) = some (bif b then 0 else 40, ()) := by
  unfold fn16 law16; cases b <;> rfl
theorem and_chain (b c : Bool) : (bif b then some (c, ()) else some (false, ())) = (some (b && c, ()) : Option (Bool × Unit)) := by cases b <;> rfl
theorem not_chain (b : Bool) (X : Int) : (bif !b then some (40, ()) else some (X, ())) = (some (bif b then X else 40, ()) : Option (Int × Unit)) := by cases b <;> rfl
theorem bif_and (b c : Bool) (X Y : Int) : (bif b then (bif c then X else Y) else Y) = bif b && c then X else Y := by cases b <;> cases c <;> rfl
theorem le_chain (a b : Int) : (bif decide (a ≤ b) then some (41, ()) else some (0, ())) = (some (aboveR a b, ()) : Option (Int × Unit)) := by
  unfold aboveR; cases decide (a ≤ b) <;> rfl
theorem wr4 : IntKind.i64.wrap (4 * 4294967296) = 17179869184 := by decide
theorem wr16 : IntKind.i64.wrap (16 * 4294967296) = 68719476736 := by decide
theorem wr32 : IntKind.i64.wrap (32 * 4294967296) = 137438953472 := by decide
theorem wr64 : IntKind.i64.wrap (64 * 4294967296) = 274877906944 := by decide
theorem wr256 : IntKind.i64.wrap (256 * 4294967296) = 1099511627776 := by decide
theorem wr512 : IntKind.i64.wrap (512 * 4294967296) = 2199023255552 := by decide
theorem wr1024 : IntKind.i64.wrap (1024 * 4294967296) = 4398046511104 := by decide
theorem wr2048 : IntKind.i64.wrap (2048 * 4294967296) = 8796093022208 := by decide
theorem wr4096 : IntKind.i64.wrap (4096 * 4294967296) = 17592186044416 := by decide
theorem wr8192 : IntKind.i64.wrap (8192 * 4294967296) = 35184372088832 := by decide
theorem wr16384 : IntKind.i64.wrap (16384 * 4294967296) = 70368744177664 := by decide
theorem wr32768 : IntKind.i64.wrap (32768 * 4294967296) = 140737488355328 := by decide
theorem wr65536 : IntKind.i64.wrap (65536 * 4294967296) = 281474976710656 := by decide
theorem wr131072 : IntKind.i64.wrap (131072 * 4294967296) = 562949953421312 := by decide
theorem wr262144 : IntKind.i64.wrap (262144 * 4294967296) = 1125899906842624 := by decide
theorem wr1048576 : IntKind.i64.wrap (1048576 * 4294967296) = 4503599627370496 := by decide
theorem wr2 : IntKind.i64.wrap (2 * 4294967296) = 8589934592 := by decide
theorem wrn2 : IntKind.i64.wrap (-2 * 4294967296) = -8589934592 := by decide
theorem wrn4 : IntKind.i64.wrap (-4 * 4294967296) = -17179869184 := by decide
theorem wrn4096 : IntKind.i64.wrap (-4096 * 4294967296) = -17592186044416 := by decide
theorem wrn32768 : IntKind.i64.wrap (-32768 * 4294967296) = -140737488355328 := by decide
theorem ex17 (c : Car) : ∃ b, fn17 (c, ()) = some (b, ()) ∧ (bif b then 0 else 40) = bodyR c := by
  unfold fn17 law17 bodyR
  rw [rangedR_in]
  simp only [ex19, Option.bind_some, and_chain, List.all_cons, List.all_nil, Bool.and_true, wr4, wr16, wr64, wr8192, wr65536]
  exact ⟨_, rfl, rfl⟩
theorem ex18 (c : Whl) : ∃ b, fn18 (c, ()) = some (b, ()) ∧ (bif b then 0 else 40) = wheelR c := by
  unfold fn18 law18 wheelR
  rw [rangedR_in]
  simp only [ex19, Option.bind_some, and_chain, List.all_cons, List.all_nil, Bool.and_true, wr4, wr16, wr64, wr8192, wr65536, wrn2, wrn4, wr1024, wr262144, wr1048576, wr2]
  exact ⟨_, rfl, rfl⟩
theorem ex23 (c : Car) : fn23 (c, ()) = some (engineR c, ()) := by
  unfold fn23 law23 engineR
  rw [rangedR_in]
  simp only [ex19, Option.bind_some, not_chain, le_chain, bif_and, List.all_cons, List.all_nil, Bool.and_true, wr4, wr16, wr32, wr512, wr64, wr2048, wr256, wr4096]
  generalize (inB _ && _) = B
  unfold aboveR
  cases B <;> cases decide (c.snd.snd.snd.snd.snd.snd.snd.snd.snd.snd.snd.fst ≤ c.snd.snd.snd.snd.snd.snd.snd.snd.snd.snd.fst) <;> rfl
theorem ex26 (c : Car) : fn26 (c, ()) = some (easeR c, ()) := by
  unfold fn26 law26 easeR
  rw [rangedR_in]
  simp only [ex19, Option.bind_some, not_chain, le_chain, bif_and, List.all_cons, List.all_nil, Bool.and_true, wr4, wr2048]
  generalize (inB _ && _) = B
  unfold aboveR
  cases B <;> cases decide (c.snd.snd.snd.snd.snd.snd.snd.snd.snd.snd.snd.snd.snd.snd.snd.snd.snd.snd.snd.snd.snd.snd.snd.snd.snd.snd.snd.snd.snd.snd.fst ≤ c.snd.snd.snd.snd.snd.snd.snd.snd.snd.snd.snd.snd.snd.snd.snd.snd.snd.snd.snd.snd.snd.snd.snd.snd.snd.snd.snd.snd.snd.snd.snd.fst) <;> rfl
theorem ex25 (c : Car) (h : FewC c) : ∃ b, fn25 (c, ()) = some (b, ()) ∧ (bif b then 0 else 40) = restR c := by
  unfold fn25 law25 restR
  rw [rangedR_in]
  simp only [ex19, Option.bind_some, and_chain, List.all_cons, List.all_nil, Bool.and_true, wr65536, wr16384]
  refine ⟨_, rfl, ?_⟩
  have e1 : inB (c.snd.snd.snd.snd.snd.snd.snd.snd.snd.snd.snd.snd.snd.snd.snd.snd.snd.snd.snd.snd.snd.snd.snd.fst, 0, 536870912, ()) = decide (c.snd.snd.snd.snd.snd.snd.snd.snd.snd.snd.snd.snd.snd.snd.snd.snd.snd.snd.snd.snd.snd.snd.snd.fst ≤ (536870912 : Int)) := by
    unfold inB
    show (decide ((0 : Int) ≤ (c.snd.snd.snd.snd.snd.snd.snd.snd.snd.snd.snd.snd.snd.snd.snd.snd.snd.snd.snd.snd.snd.snd.snd.fst : Int)) && decide ((c.snd.snd.snd.snd.snd.snd.snd.snd.snd.snd.snd.snd.snd.snd.snd.snd.snd.snd.snd.snd.snd.snd.snd.fst : Int) ≤ 536870912)) = _
    rw [decide_eq_true h.steer.1]; rfl
  have e2 : inB (c.snd.snd.snd.snd.snd.snd.snd.snd.snd.snd.snd.snd.snd.snd.snd.snd.snd.snd.snd.snd.snd.snd.snd.snd.fst, 0, 2147483648, ()) = decide (c.snd.snd.snd.snd.snd.snd.snd.snd.snd.snd.snd.snd.snd.snd.snd.snd.snd.snd.snd.snd.snd.snd.snd.snd.fst ≤ (2147483648 : Int)) := by
    unfold inB
    show (decide ((0 : Int) ≤ (c.snd.snd.snd.snd.snd.snd.snd.snd.snd.snd.snd.snd.snd.snd.snd.snd.snd.snd.snd.snd.snd.snd.snd.snd.fst : Int)) && decide ((c.snd.snd.snd.snd.snd.snd.snd.snd.snd.snd.snd.snd.snd.snd.snd.snd.snd.snd.snd.snd.snd.snd.snd.snd.fst : Int) ≤ 2147483648)) = _
    rw [decide_eq_true h.rate.1]; rfl
  rw [e1, e2]
  have e3 : (c.snd.snd.snd.snd.snd.snd.snd.snd.snd.snd.snd.snd.snd.snd.snd.snd.snd.snd.fst == (0 : Int) || (c.snd.snd.snd.snd.snd.snd.snd.snd.snd.snd.snd.snd.snd.snd.snd.snd.snd.snd.fst == (1 : Int) || c.snd.snd.snd.snd.snd.snd.snd.snd.snd.snd.snd.snd.snd.snd.snd.snd.snd.snd.fst == (2 : Int))) = (decide ((c.snd.snd.snd.snd.snd.snd.snd.snd.snd.snd.snd.snd.snd.snd.snd.snd.snd.snd.fst : Int) ≥ 0) && decide ((c.snd.snd.snd.snd.snd.snd.snd.snd.snd.snd.snd.snd.snd.snd.snd.snd.snd.snd.fst : Int) ≤ 2)) := by
    generalize c.snd.snd.snd.snd.snd.snd.snd.snd.snd.snd.snd.snd.snd.snd.snd.snd.snd.snd.fst = d
    rw [Bool.eq_iff_iff]
    simp only [Bool.or_eq_true, beq_iff_eq, Bool.and_eq_true, decide_eq_true_eq]
    omega
  rw [e3]
  generalize decide (c.snd.snd.snd.snd.snd.snd.snd.snd.snd.snd.snd.snd.snd.snd.snd.snd.snd.snd.snd.snd.snd.snd.snd.fst ≤ (536870912 : Int)) = t1
  generalize decide (c.snd.snd.snd.snd.snd.snd.snd.snd.snd.snd.snd.snd.snd.snd.snd.snd.snd.snd.snd.snd.snd.snd.snd.snd.fst ≤ (2147483648 : Int)) = t2
  cases decide ((c.snd.snd.snd.snd.snd.snd.snd.snd.snd.snd.snd.snd.snd.snd.snd.snd.snd.snd.fst : Int) ≥ 0) <;> cases decide ((c.snd.snd.snd.snd.snd.snd.snd.snd.snd.snd.snd.snd.snd.snd.snd.snd.snd.snd.fst : Int) ≤ 2) <;> rfl
theorem lx24 (M0 : Nat) (hM0 : 100 ≤ M0) (c : Car) (h : FewC c) : law24 M0 (c, ()) = some (gearsR c, ()) := by
  unfold law24 gearsR
  have hg := h.gears
  simp only []
  rw [rangedR_in]
  have hgs : ∃ gs : List Int, gs = c.snd.snd.snd.snd.snd.snd.snd.snd.snd.snd.snd.snd.snd.snd.snd.snd.fst := ⟨_, rfl⟩
  obtain ⟨gs, hgs⟩ := hgs
  have hl : (gs.length : Int) < 2 ^ 62 := by rw [hgs]; omega
  rw [← hgs]
  have e : ∀ k1 : Option (Int × Unit), law24o0 M0 (c, ()) (some (40, ())) k1 M0 0 = bif gs.any (fun g => !inB (gearB g)) then some (40, ()) else k1 := fun k1 => by
    refine any_law gs (fun g => !inB (gearB g)) (some (40, ())) k1 (fun n j => law24o0 M0 (c, ()) (some (40, ())) k1 n j) hl (fun n j v hv => ?_) (fun n j hj => ?_) M0 (by rw [hgs]; omega)
    · conv => lhs; unfold law24o0
      rw [← hgs]
      simp only [idx0, idxB hv, Bool.and_self, cond_true, Int.toNat_natCast, hv, Option.bind_some, ex19, wr32]
      rfl
    · conv => lhs; unfold law24o0
      rw [← hgs]
      simp only [hj, decide_false, cond_false]
  rw [e]
  simp only [ex19, Option.bind_some, not_chain, bif_and, wr32, wr16, List.all_cons, List.all_map]
  have e2 : (gs.any fun g => !inB (gearB g)) = !gs.all (inB ∘ gearB) := by
    rw [List.not_all_eq_any_not]; rfl
  rw [e2]
  generalize inB (c.snd.snd.snd.snd.snd.snd.snd.snd.snd.snd.snd.snd.snd.snd.snd.fst, 1073741824, 137438953472, ()) = t1
  generalize inB (c.snd.snd.snd.snd.snd.snd.snd.snd.snd.snd.snd.snd.snd.snd.snd.snd.snd.fst, 2147483648, 68719476736, ()) = t2
  cases decide ((List.length (α := Int) gs : Int) < 1) <;> cases decide ((List.length (α := Int) gs : Int) > 8) <;> cases gs.all (inB ∘ gearB) <;> cases t1 <;> cases t2 <;> rfl
theorem ex24 (c : Car) (h : FewC c) : fn24 (c, ()) = some (gearsR c, ()) := lx24 _ (by decide) c h
theorem ex55 (x : Int × Int × Unit) : fn55 x = some (decide ((x.fst : Int) ≤ (x.snd.fst : Int)) && decide ((x.fst : Int) ≥ IntKind.i64.wrap (0 - (x.snd.fst : Int))), ()) := by
  unfold fn55 law55
  cases decide ((x.fst : Int) ≤ (x.snd.fst : Int)) <;> rfl
theorem far55 (a : Int) : (decide (a ≤ 4503599627370496) && decide (a ≥ IntKind.i64.wrap (0 - 4503599627370496))) = !farI a := by
  unfold farI
  rw [show IntKind.i64.wrap (0 - 4503599627370496) = -4503599627370496 by decide]
  by_cases h1 : a ≤ 4503599627370496 <;> by_cases h2 : a ≥ -4503599627370496 <;> simp [h1, h2] <;> omega
theorem lx40o0 (N0 : Nat) (l : List Dot) (hl : (l.length : Int) < 2 ^ 62) : ∀ (n j : Nat), j ≤ l.length → l.length - j < n → law40o0 N0 (l, ()) (fun w => some (w, ())) (some (0, ())) n (j : Int) = some (tabGo (prevX l j) (l.drop j), ())
  | 0, j, _, h => by omega
  | n + 1, j, hj, h => by
    unfold law40o0
    by_cases hc : j < l.length
    · have hv : l[j]? = some l[j] := List.getElem?_eq_getElem hc
      rw [List.drop_eq_getElem_cons hc]
      have ih := lx40o0 N0 l hl n (j + 1) (by omega) (by omega)
      simp only [idx0, idxB hv, Bool.and_self, cond_true, Int.toNat_natCast, hv, Option.bind_some, tabGo, ex55, far55, Bool.not_not]
      have e1 : prevX l (j + 1) = some (l[j]).1 := by simp [prevX, hv]
      rw [wrapNat j (by omega), ih, e1]
      cases farI (l[j]).1
      case true => rfl
      cases farI (l[j]).2.1
      case true => rfl
      simp only [cond_false, Bool.or_self]
      cases j with
      | zero => rfl
      | succ j =>
        have hw : IntKind.i64.wrap (((j + 1 : Nat) : Int) - 1) = (j : Int) := by rw [i64_in _ (by omega)]; omega
        have hv' : l[j]? = some l[j] := List.getElem?_eq_getElem (by omega)
        rw [hw]
        simp only [idx0, idxB hv', Bool.and_self, cond_true, Int.toNat_natCast, hv', Option.bind_some, prevX, Option.map_some]
        have : decide (((j + 1 : Nat) : Int) > 0) = true := by simp
        simp only [this, cond_true]
        cases decide (l[j + 1].1 ≤ l[j].1) <;> rfl
    · have : decide ((j : Int) < (l.length : Int)) = false := by simp; omega
      simp only [this, cond_false]
      rw [show j = l.length by omega, List.drop_length]; rfl
theorem ex40 (l : List Dot) (hl : (l.length : Int) < 2 ^ 62) : fn40 (l, ()) = some (tabR l, ()) := by
  unfold fn40 law40 tabR
  have := lx40o0 (10 ^ 30) l hl (10 ^ 30) 0 (Nat.zero_le _) (big30 _ (by omega))
  refine (congrArg (fun z => bif decide ((l.length : Int) < 2) then some (42, ()) else (bif decide ((l.length : Int) > 32) then some (42, ()) else z)) this).trans ?_
  cases decide ((l.length : Int) < 2) <;> cases decide ((l.length : Int) > 32) <;> rfl
theorem lx21 (M0 : Nat) (l : List Dot) (lo hi : Int) (also : Bool) (hl : (l.length : Int) < 2 ^ 62) (hM : l.length < M0) : law21 M0 (l, lo, hi, also, ()) = some (valR (fun d => bif also then alikeD d else true) l lo hi, ()) := by
  unfold law21 valR
  refine (bindSome (ex40 l hl)).trans ?_
  cases h0 : tabR l != 0
  case true =>
    have h1 : (tabR l == 0) = false := by simpa using h0
    cases M0 with
    | zero => omega
    | succ n =>
    unfold law21o0
    show (bif decide ((0 : Int) < (l.length : Int)) then (bif tabR l == 0 then _ else some (tabR l, ())) else some (tabR l, ())) = some (tabR l, ())
    rw [h1]
    cases decide ((0 : Int) < (l.length : Int)) <;> rfl
  have h1 : tabR l = 0 := by simpa using h0
  have h2 : (tabR l == 0) = true := by simp [h1]
  refine (any_law l (fun d : Dot => decide (d.2.1 < lo) || decide (d.2.1 > hi) || !(bif also then alikeD d else true)) (some (40, ())) (some (tabR l, ())) (fun n j => law21o0 M0 (l, lo, hi, also, ()) (tabR l, ()) (some (40, ())) (some (tabR l, ())) n j) hl (fun n j v hv => ?_) (fun n j hj => ?_) M0 hM).trans ?_
  · conv => lhs; unfold law21o0
    simp only [idx0, idxB hv, Bool.and_self, cond_true, Int.toNat_natCast, hv, Option.bind_some, ex19, h2]
    have e1 : (!inB (v.2.1, lo, hi, ())) = (decide (v.2.1 < lo) || decide (v.2.1 > hi)) := (outB_in (v.2.1, lo, hi, ())).symm
    have e2 : (decide (v.2.1 < lo) || decide (v.2.1 > hi) || !(bif also then alikeD v else true)) = bif decide (v.2.1 < lo) || decide (v.2.1 > hi) then true else !(bif also then alikeD v else true) := by cases decide (v.2.1 < lo) || decide (v.2.1 > hi) <;> rfl
    rw [e1, e2]
    generalize law21o0 M0 _ _ _ _ n _ = K
    cases decide (v.2.1 < lo) || decide (v.2.1 > hi)
    case true => rfl
    cases also
    case false => rfl
    unfold alikeD
    simp only [cond_true, cond_false]
    cases decide (v.1 > 0) <;> cases decide (v.2.1 < 0) <;> cases decide (v.1 < 0) <;> cases decide (v.2.1 > 0) <;> rfl
  · conv => lhs; unfold law21o0
    simp only [hj, decide_false, cond_false]
  · rw [h1]; cases l.any _ <;> rfl
theorem ex21 (l : List Dot) (lo hi : Int) (also : Bool) (hl : (l.length : Int) < 2 ^ 62) : fn21 (l, lo, hi, also, ()) = some (valR (fun d => bif also then alikeD d else true) l lo hi, ()) := lx21 _ l lo hi also hl (big30 _ hl)
theorem ex70 (x : Int × Unit) : fn70 x = some (farI x.fst, ()) := by
  obtain ⟨a, u⟩ := x
  unfold fn70 law70 farI
  show (bif decide ((a : Int) > 4503599627370496) then some (true, ()) else some (decide ((a : Int) < -4503599627370496), ())) = some (decide ((a : Int) > 4503599627370496) || decide ((a : Int) < -4503599627370496), ())
  cases decide ((a : Int) > 4503599627370496) <;> rfl
theorem ex56 (l : List Int) (hl : (l.length : Int) < 2 ^ 62) : fn56 (l, ()) = some (l.any farI, ()) := by
  unfold fn56 law56
  refine (any_law l farI (some (true, ())) (some (false, ())) (fun n j => law56o0 (10 ^ 30) (l, ()) (some (true, ())) (some (false, ())) n j) hl (fun n j v hv => ?_) (fun n j hj => ?_) (10 ^ 30) (big30 _ hl)).trans ?_
  · conv => lhs; unfold law56o0
    simp only [idx0, idxB hv, Bool.and_self, cond_true, Int.toNat_natCast, hv, Option.bind_some, ex70]
  · conv => lhs; unfold law56o0
    simp only [hj, decide_false, cond_false]
  · cases l.any farI <;> rfl
theorem lx57o0 (N0 : Nat) (l : List Int) (hl : (l.length : Int) < 2 ^ 62) : ∀ (n j : Nat), j + 1 ≤ l.length → l.length - j < n → law57o0 N0 (l, ()) (some (true, ())) (some (false, ())) n ((j + 1 : Nat) : Int) = (some (!risesL (l.drop j), ()) : Option (Bool × Unit))
  | 0, j, _, h => by omega
  | n + 1, j, hj, h => by
    unfold law57o0
    by_cases hc : j + 1 < l.length
    · have hv : l[j + 1]? = some l[j + 1] := List.getElem?_eq_getElem hc
      have hv' : l[j]? = some l[j] := List.getElem?_eq_getElem (by omega)
      have ih := lx57o0 N0 l hl n (j + 1) (by omega) (by omega)
      have hw : IntKind.i64.wrap (((j + 1 : Nat) : Int) - 1) = (j : Int) := by rw [i64_in _ (by omega)]; omega
      simp only [idx0, idxB hv, hw, idxB hv', Bool.and_self, cond_true, Int.toNat_natCast, hv, hv', Option.bind_some]
      rw [wrapNat (j + 1) (by omega), ih, List.drop_eq_getElem_cons (show j < l.length by omega), List.drop_eq_getElem_cons hc]
      simp only [risesL]
      by_cases hh : l[j + 1] ≤ l[j]
      · have : ¬ l[j] < l[j + 1] := by omega
        simp only [hh, this, decide_true, decide_false, cond_true, Bool.false_and, Bool.not_false]
      · have : l[j] < l[j + 1] := by omega
        simp only [hh, this, decide_true, decide_false, cond_false, Bool.true_and]
    · have : decide (((j + 1 : Nat) : Int) < (l.length : Int)) = false := by simp; omega
      simp only [this, cond_false]
      have e : (l.drop j).length = 1 := by rw [List.length_drop]; omega
      match l.drop j, e with
      | [a], _ => rfl
theorem ex57 (l : List Int) (hl : (l.length : Int) < 2 ^ 62) : fn57 (l, ()) = some (!risesL l, ()) := by
  unfold fn57 law57
  cases l with
  | nil => rfl
  | cons a l =>
    exact (lx57o0 (10 ^ 30) (a :: l) hl (10 ^ 30) 0 (by simp) (big30 _ (by omega))).trans rfl
theorem lx41 (M0 M1 : Nat) (hM0 : 100 ≤ M0) (hM1 : 100 ≤ M1) (p : Pan) (hp : FewP p) : law41 M0 M1 (p, ()) = some (paneR p, ()) := by
  obtain ⟨h1, h2, h3, h4⟩ := hp
  unfold law41
  have ea : ∀ k0 k1 : Option (Int × Unit), law41o0 M0 M1 (p, ()) k0 k1 M0 0 = bif p.2.2.1.any (fun r => (r.length : Int) != (p.1.length : Int)) then k0 else k1 := fun k0 k1 => by
    refine any_law p.2.2.1 _ k0 k1 (fun n j => law41o0 M0 M1 (p, ()) k0 k1 n j) (by omega) (fun n j v hv => ?_) (fun n j hj => ?_) M0 (by omega)
    · conv => lhs; unfold law41o0
      simp only [idx0, idxB hv, Bool.and_self, cond_true, Int.toNat_natCast, hv, Option.bind_some]
    · conv => lhs; unfold law41o0
      simp only [hj, decide_false, cond_false]
  have eb : ∀ k0 k1 : Option (Int × Unit), law41o1o1 M0 M1 (p, ()) k0 k1 M1 0 = bif p.2.2.1.any (fun r => List.any (α := Int) r farI) then k0 else k1 := fun k0 k1 => by
    refine any_law p.2.2.1 _ k0 k1 (fun n j => law41o1o1 M0 M1 (p, ()) k0 k1 n j) (by omega) (fun n j v hv => ?_) (fun n j hj => ?_) M1 (by omega)
    · conv => lhs; unfold law41o1o1
      have := h4 v (List.mem_of_getElem? hv)
      simp only [idx0, idxB hv, Bool.and_self, cond_true, Int.toNat_natCast, hv, Option.bind_some, ex56 v (by omega)]
    · conv => lhs; unfold law41o1o1
      simp only [hj, decide_false, cond_false]
  rw [ea, eb]
  simp only [ex56 p.1 (by omega), ex56 p.2.1 (by omega), ex57 p.1 (by omega), ex57 p.2.1 (by omega), Option.bind_some]
  have en := any_ne p.2.2.1 p.1.length
  unfold paneR countedP mayN
  rw [← en]
  have m1 : decide ((p.1.length : Int) < 2) = !decide (2 ≤ p.1.length) := by by_cases h : 2 ≤ p.1.length <;> simp [h] <;> omega
  have m2 : decide ((p.1.length : Int) > 32) = !decide (p.1.length ≤ 32) := by by_cases h : p.1.length ≤ 32 <;> simp [h] <;> omega
  have m3 : decide ((p.2.1.length : Int) < 2) = !decide (2 ≤ p.2.1.length) := by by_cases h : 2 ≤ p.2.1.length <;> simp [h] <;> omega
  have m4 : decide ((p.2.1.length : Int) > 32) = !decide (p.2.1.length ≤ 32) := by by_cases h : p.2.1.length ≤ 32 <;> simp [h] <;> omega
  have m5 : ((p.2.2.1.length : Int) != (p.2.1.length : Int)) = !decide (p.2.2.1.length = p.2.1.length) := by
    by_cases h : p.2.2.1.length = p.2.1.length
    · simp [h]
    · have : ¬ (p.2.2.1.length : Int) = (p.2.1.length : Int) := by omega
      simp [h, this]
  rw [m1, m2, m3, m4, m5]
  cases decide (2 ≤ p.1.length)
  case false => rfl
  cases decide (p.1.length ≤ 32)
  case false => rfl
  cases decide (2 ≤ p.2.1.length)
  case false => rfl
  cases decide (p.2.1.length ≤ 32)
  case false => rfl
  cases decide (p.2.2.1.length = p.2.1.length)
  case false => rfl
  cases p.2.2.1.any (fun r => (r.length : Int) != (p.1.length : Int))
  case true => rfl
  cases p.1.any farI
  case true => rfl
  cases p.2.1.any farI
  case true => rfl
  cases p.2.2.1.any (fun r => List.any (α := Int) r farI)
  case true => rfl
  cases risesL p.1
  case false => rfl
  cases risesL p.2.1 <;> rfl
theorem ex41 (p : Pan) (hp : FewP p) : fn41 (p, ()) = some (paneR p, ()) := lx41 _ _ (by decide) (by decide) p hp
end Go.Proofs.Ytamdbejojnfoiaa
