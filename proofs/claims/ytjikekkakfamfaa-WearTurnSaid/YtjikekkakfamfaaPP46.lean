/- Plain Lean: what the laws of this program's functions come to, in numbers and lists; no program is run here. -/
import Derived.Test.YtjikekkakfamfaaPP46k
set_option linter.unusedVariables false
set_option linter.unusedSimpArgs false
set_option maxRecDepth 100000
namespace Go.Proofs.Ytjikekkakfamfaa
open Go Go.Ab Go.Proofs Go.IntWalk
/- Tyres' wear in plain Lean (r46). -/
def facD (d : Dot) : Bool := inB (d.2.1, 0, 8589934592, ())
def makeR (k : MakeT) : Int := bif tabR (k.snd.snd.snd.snd.fst) != 0 then tabR (k.snd.snd.snd.snd.fst) else bif tabR (k.snd.snd.snd.snd.snd.fst) != 0 then tabR (k.snd.snd.snd.snd.snd.fst) else bif inB (k.fst, 0, 4294967296, ()) && (inB (k.snd.fst, 0, 4294967296, ()) && (inB (k.snd.snd.fst, 0, 4294967296, ()) && (inB (k.snd.snd.snd.fst, -429496729600, 429496729600, ()) && ((k.snd.snd.snd.snd.fst).all facD && (k.snd.snd.snd.snd.snd.fst).all facD)))) then 0 else 40
structure OkM (k : MakeT) : Prop where
  rub : I64 (k.fst)
  warm : I64 (k.snd.fst)
  cool : I64 (k.snd.snd.fst)
  air : I64 (k.snd.snd.snd.fst)
  hot : ∀ d ∈ k.snd.snd.snd.snd.fst, OkD d
  old : ∀ d ∈ k.snd.snd.snd.snd.snd.fst, OkD d
theorem in32 (x : Int × Int × Int × Unit) : fn32 x = some (inB x, ()) := by
  obtain ⟨a, lo, hi, u⟩ := x
  unfold fn32 law32 inB
  show (bif decide (lo ≤ a) then some (decide (a ≤ hi), ()) else some (false, ())) = some (decide (lo ≤ a) && decide (a ≤ hi), ())
  cases decide (lo ≤ a) <;> rfl
theorem in19 (x : Int × Int × Int × Unit) : fn19 x = some (inB x, ()) := by
  obtain ⟨a, lo, hi, u⟩ := x
  unfold fn19 law19 inB
  show (bif decide (lo ≤ a) then some (decide (a ≤ hi), ()) else some (false, ())) = some (decide (lo ≤ a) && decide (a ≤ hi), ())
  cases decide (lo ≤ a) <;> rfl
theorem between29 (lo hi : Int) (l : List Int) (hl : (l.length : Int) < 2 ^ 62) : fn29 (lo, hi, l, ()) = some (l.all (fun v => inB (v, lo, hi, ())), ()) := by
  unfold fn29 law29
  refine (any_law l (fun v => !inB (v, lo, hi, ())) (some (false, ())) (some (true, ())) (fun n j => law29o0 (10 ^ 30) (lo, hi, l, ()) (some (false, ())) (some (true, ())) n j) hl (fun n j v hv => ?_) (fun n j hj => ?_) (10 ^ 30) (big30 _ hl)).trans ?_
  · conv => lhs; unfold law29o0
    simp only [idx0, idxB hv, Bool.and_self, cond_true, Int.toNat_natCast, hv, Option.bind_some]
    have e : (!inB (v, lo, hi, ())) = (decide (v < lo) || decide (v > hi)) := (outB_in (v, lo, hi, ())).symm
    rw [e]
    cases decide (v < lo) <;> cases decide (v > hi) <;> rfl
  · conv => lhs; unfold law29o0
    simp only [hj, decide_false, cond_false]
  · have e : l.all (fun v => inB (v, lo, hi, ())) = !l.any (fun v => !inB (v, lo, hi, ())) := by rw [List.all_eq_not_any_not]
    rw [e]; cases l.any (fun v => !inB (v, lo, hi, ())) <;> rfl
theorem mapY (l : List Dot) : (List.map (fun d : Dot => [d.2.1]) l).flatten = l.map fun d => d.2.1 := by
  induction l with
  | nil => rfl
  | cons a l ih => simp [ih]
theorem lx30 (N : Nat) (hN : 100 ≤ N) (l : List Dot) (hl : l.length ≤ 40) : law30 N (l, ()) = some (l.map fun d => d.2.1) := by
  unfold law30
  have c0 : decide (0 ≤ (l.length : Int)) = true := decide_eq_true (by omega)
  have c1 : decide ((l.length : Int).toNat * Try.prog.types[22].bytes ≤ 140737488355328) = true := by rw [bytes8]; exact decide_eq_true (by simp only [Int.toNat_natCast]; omega)
  have c2 : decide ((l.length : Int) ≤ 4611686018427387904) = true := decide_eq_true (by omega)
  show (bif decide (0 ≤ (l.length : Int)) && (decide ((l.length : Int).toNat * Try.prog.types[22].bytes ≤ 140737488355328) && decide ((l.length : Int) ≤ 4611686018427387904)) then _ else _) = _
  rw [c0, c1, c2]
  cases l with
  | nil => rfl
  | cons d l =>
  have d0 : decide (0 < (((d :: l).length : Nat) : Int)) = true := decide_eq_true (by rw [List.length_cons]; omega)
  show (bif decide (0 < (((d :: l).length : Nat) : Int)) then (bif decide ((0 : Int) ≤ 0) && decide (0 < (((d :: l).length : Nat) : Int)) then law30o0 N (d :: l, ()) _ N 1 ((1 : Nat) : Int) [d.2.1] else none) else some []) = _
  rw [d0]
  have em : (List.map (fun d : Dot => [d.2.1]) ((d :: l).drop 1)).flatten.length = l.length := by rw [mapY]; simp
  have hl' : l.length + 1 ≤ 40 := hl
  have := app_law (d :: l) (fun d : Dot => [d.2.1]) 8 (fun w14 (w15 : List Int) => (bif decide (w14 = w15.length) then some w15 else none)) (fun n m j a => law30o0 N (d :: l, ()) (fun w14 w15 => (bif decide (w14 = w15.length) then some w15 else none)) n m j a) (by rw [List.length_cons]; omega) (fun n m j a v hv => ?_) (fun n m j a hj => ?_) N 1 [d.2.1] (by rw [List.length_cons]; omega) (by rw [List.length_cons]; omega) (by rw [em, List.length_singleton]; omega) (by rw [em, List.length_singleton]; omega)
  · refine this.trans ?_
    rw [decide_eq_true rfl, mapY]; rfl
  · conv => lhs; unfold law30o0
    simp only [idx0, idxB hv, Bool.and_self, cond_true, Int.toNat_natCast, hv, Option.bind_some]
    rw [bytes8]
    rfl
  · conv => lhs; unfold law30o0
    simp only [hj, decide_false, cond_false]
theorem values30 (l : List Dot) (hl : l.length ≤ 40) : fn30 (l, ()) = some (l.map fun d => d.2.1) := lx30 _ (by decide) l hl
theorem factors33 (l : List Dot) (hl : (l.length : Int) < 2 ^ 62) : fn33 (l, ()) = some (l.all facD, ()) := by
  unfold fn33 law33
  refine (any_law l (fun d => !facD d) (some (false, ())) (some (true, ())) (fun n j => law33o0 (10 ^ 30) (l, ()) (some (false, ())) (some (true, ())) n j) hl (fun n j v hv => ?_) (fun n j hj => ?_) (10 ^ 30) (big30 _ hl)).trans ?_
  · conv => lhs; unfold law33o0
    simp only [idx0, idxB hv, Bool.and_self, cond_true, Int.toNat_natCast, hv, Option.bind_some, in32]
    rfl
  · conv => lhs; unfold law33o0
    simp only [hj, decide_false, cond_false]
  · have e : l.all facD = !l.any (fun d => !facD d) := by rw [List.all_eq_not_any_not]
    rw [e]; cases l.any (fun d => !facD d) <;> rfl
theorem lx11 (N : Nat) (hN : 100 ≤ N) (k : MakeT) (h4 : (k.snd.snd.snd.snd.fst).length ≤ 40) (h5 : (k.snd.snd.snd.snd.snd.fst).length ≤ 40) : law11 N (k, ()) = some (makeR k, ()) := by
  unfold law11
  obtain ⟨M, rfl⟩ : ∃ M, N = M + 3 := ⟨N - 3, by omega⟩
  have loop : ∀ (Q : Nat) (K0 : Int → Option (Int × Unit)) (K1 : Option (Int × Unit)), law11o0 Q (k, ()) K0 K1 (M + 3) 0 = bif tabR (k.snd.snd.snd.snd.fst) != 0 then K0 (tabR (k.snd.snd.snd.snd.fst)) else bif tabR (k.snd.snd.snd.snd.snd.fst) != 0 then K0 (tabR (k.snd.snd.snd.snd.snd.fst)) else K1 := by
    intro Q K0 K1
    have s2 : law11o0 Q (k, ()) K0 K1 (M + 1) 2 = K1 := by
      unfold law11o0; rfl
    have s1 : law11o0 Q (k, ()) K0 K1 (M + 2) 1 = bif tabR (k.snd.snd.snd.snd.snd.fst) != 0 then K0 (tabR (k.snd.snd.snd.snd.snd.fst)) else K1 := by
      unfold law11o0
      show (bif decide (List.length (k.snd.snd.snd.snd.snd.fst) = List.length (k.snd.snd.snd.snd.snd.fst)) then Option.bind (fn28 (k.snd.snd.snd.snd.snd.fst, ())) _ else none) = _
      refine bif_eq (by simp) ((bindSome (ex28 (k.snd.snd.snd.snd.snd.fst) (by omega))).trans ?_)
      show (bif tabR (k.snd.snd.snd.snd.snd.fst) != 0 then K0 (tabR (k.snd.snd.snd.snd.snd.fst)) else law11o0 Q (k, ()) K0 K1 (M + 1) 2) = _
      rw [s2]
    unfold law11o0
    show (bif decide (List.length (k.snd.snd.snd.snd.fst) = List.length (k.snd.snd.snd.snd.fst)) then Option.bind (fn28 (k.snd.snd.snd.snd.fst, ())) _ else none) = _
    refine bif_eq (by simp) ((bindSome (ex28 (k.snd.snd.snd.snd.fst) (by omega))).trans ?_)
    show (bif tabR (k.snd.snd.snd.snd.fst) != 0 then K0 (tabR (k.snd.snd.snd.snd.fst)) else law11o0 Q (k, ()) K0 K1 (M + 2) 1) = _
    rw [s1]
  rw [loop]
  unfold makeR
  cases tabR (k.snd.snd.snd.snd.fst) != 0
  case true => rfl
  cases tabR (k.snd.snd.snd.snd.snd.fst) != 0
  case true => rfl
  repeat rw [cond_false]
  have v4 := values30 (k.snd.snd.snd.snd.fst) h4
  have v5 := values30 (k.snd.snd.snd.snd.snd.fst) h5
  have l4 : ((k.snd.snd.snd.snd.fst).map fun d => d.2.1).length = (k.snd.snd.snd.snd.fst).length := by simp
  have l5 : ((k.snd.snd.snd.snd.snd.fst).map fun d => d.2.1).length = (k.snd.snd.snd.snd.snd.fst).length := by simp
  have hb := between29 0 8589934592 (((k.snd.snd.snd.snd.fst).map fun d => d.2.1) ++ ((k.snd.snd.snd.snd.snd.fst).map fun d => d.2.1)) (by rw [List.length_append, l4, l5]; omega)
  have ha : (((k.snd.snd.snd.snd.fst).map fun d => d.2.1) ++ ((k.snd.snd.snd.snd.snd.fst).map fun d => d.2.1)).all (fun v => inB (v, 0, 8589934592, ())) = ((k.snd.snd.snd.snd.fst).all facD && (k.snd.snd.snd.snd.snd.fst).all facD) := by
    rw [List.all_append, List.all_map, List.all_map]; rfl
  rw [ha] at hb
  have room : (decide ((((k.snd.snd.snd.snd.fst).map fun d => d.2.1).length + ((k.snd.snd.snd.snd.snd.fst).map fun d => d.2.1).length) * Try.prog.types[22].bytes ≤ 140737488355328) && decide (((k.snd.snd.snd.snd.fst).map fun d => d.2.1).length + ((k.snd.snd.snd.snd.snd.fst).map fun d => d.2.1).length ≤ 9223372036854775807)) = true := by
    rw [bytes8, l4, l5, decide_eq_true (by omega), decide_eq_true (by omega)]; rfl
  have same : decide (((k.snd.snd.snd.snd.fst).map fun d => d.2.1).length + ((k.snd.snd.snd.snd.snd.fst).map fun d => d.2.1).length = (((k.snd.snd.snd.snd.fst).map fun d => d.2.1) ++ ((k.snd.snd.snd.snd.snd.fst).map fun d => d.2.1)).length) = true := by rw [List.length_append]; simp
  have b1 := between29 0 4294967296 [k.fst, k.snd.fst, k.snd.snd.fst] (by simp)
  have b2 := between29 (-429496729600) 429496729600 [k.snd.snd.snd.fst] (by simp)
  have c1 : [k.fst, k.snd.fst, k.snd.snd.fst].all (fun v => inB (v, 0, 4294967296, ())) = (inB (k.fst, 0, 4294967296, ()) && (inB (k.snd.fst, 0, 4294967296, ()) && inB (k.snd.snd.fst, 0, 4294967296, ()))) := by simp only [List.all_cons, List.all_nil, Bool.and_true]
  have c2 : [k.snd.snd.snd.fst].all (fun v => inB (v, -429496729600, 429496729600, ())) = inB (k.snd.snd.snd.fst, -429496729600, 429496729600, ()) := by simp only [List.all_cons, List.all_nil, Bool.and_true]
  rw [c1] at b1
  rw [c2] at b2
  have tail : (bif decide (List.length (k.snd.snd.snd.snd.fst) = List.length (k.snd.snd.snd.snd.fst)) then (Option.bind (fn30 (k.snd.snd.snd.snd.fst, ())) fun v20 => (bif decide (List.length (k.snd.snd.snd.snd.snd.fst) = List.length (k.snd.snd.snd.snd.snd.fst)) then (Option.bind (fn30 (k.snd.snd.snd.snd.snd.fst, ())) fun v21 => (bif decide ((v20.length + v21.length) * Try.prog.types[22].bytes ≤ 140737488355328) && decide (v20.length + v21.length ≤ 9223372036854775807) then (bif decide (v20.length + v21.length = (v20 ++ v21).length) then (Option.bind (fn29 (0, 8589934592, v20 ++ v21, ())) fun v22 => (bif !v22.1 then some (40, ()) else some (0, ()))) else none) else none)) else none)) else none) = (some (bif (k.snd.snd.snd.snd.fst).all facD && (k.snd.snd.snd.snd.snd.fst).all facD then 0 else 40, ()) : Option (Int × Unit)) := by
    refine bif_eq (by simp) ((bindSome v4).trans (bif_eq (by simp) ((bindSome v5).trans (bif_eq room (bif_eq same ((bindSome hb).trans ?_))))))
    cases ((k.snd.snd.snd.snd.fst).all facD && (k.snd.snd.snd.snd.snd.fst).all facD) <;> rfl
  refine (bindSome b1).trans ?_
  have k5 : (k.snd.snd.snd.snd.snd) = (k.snd.snd.snd.snd.snd.fst, ()) := rfl
  generalize inB (k.fst, 0, 4294967296, ()) = t0 at *
  generalize inB (k.snd.fst, 0, 4294967296, ()) = t1 at *
  generalize inB (k.snd.snd.fst, 0, 4294967296, ()) = t2 at *
  generalize inB (k.snd.snd.snd.fst, -429496729600, 429496729600, ()) = t3 at *
  have fin2 : Option.bind (fn29 (-429496729600, 429496729600, [k.snd.snd.snd.fst], ())) (fun v23 => (bif !v23.1 then some (40, ()) else (bif decide (List.length (k.snd.snd.snd.snd.fst) = List.length (k.snd.snd.snd.snd.fst)) then (Option.bind (fn30 (k.snd.snd.snd.snd.fst, ())) fun v20 => (bif decide (List.length (k.snd.snd.snd.snd.snd.fst) = List.length (k.snd.snd.snd.snd.snd.fst)) then (Option.bind (fn30 (k.snd.snd.snd.snd.snd.fst, ())) fun v21 => (bif decide ((v20.length + v21.length) * Try.prog.types[22].bytes ≤ 140737488355328) && decide (v20.length + v21.length ≤ 9223372036854775807) then (bif decide (v20.length + v21.length = (v20 ++ v21).length) then (Option.bind (fn29 (0, 8589934592, v20 ++ v21, ())) fun v22 => (bif !v22.1 then some (40, ()) else some (0, ()))) else none) else none)) else none)) else none))) = (some (bif t3 && ((k.snd.snd.snd.snd.fst).all facD && (k.snd.snd.snd.snd.snd.fst).all facD) then 0 else 40, ()) : Option (Int × Unit)) := by
    refine (bindSome b2).trans ?_
    cases t3
    · rfl
    · exact tail
  cases t0
  · rfl
  cases t1
  · rfl
  cases t2
  · rfl
  exact fin2
theorem right11 (k : MakeT) (h4 : (k.snd.snd.snd.snd.fst).length ≤ 40) (h5 : (k.snd.snd.snd.snd.snd.fst).length ≤ 40) : fn11 (k, ()) = some (makeR k, ()) := lx11 _ (by decide) k h4 h5
theorem right12 (k : MakeT) (h4 : (k.snd.snd.snd.snd.fst).length ≤ 40) (h5 : (k.snd.snd.snd.snd.snd.fst).length ≤ 40) : fn12 (k, ()) = some (makeR k, ()) := by
  unfold fn12 law12 makeR
  have f4 := factors33 (k.snd.snd.snd.snd.fst) (by omega)
  have f5 := factors33 (k.snd.snd.snd.snd.snd.fst) (by omega)
  refine (bindSome (ex31 (k.snd.snd.snd.snd.fst) (by omega))).trans ?_
  cases h0 : tabR (k.snd.snd.snd.snd.fst) != 0
  case true =>
    have e : (tabR (k.snd.snd.snd.snd.fst) == 0) = false := by simpa using h0
    simp only [e, h0, cond_false, cond_true]
  have e : (tabR (k.snd.snd.snd.snd.fst) == 0) = true := by simpa using h0
  simp only [e, cond_true, cond_false]
  refine (bindSome (ex31 (k.snd.snd.snd.snd.snd.fst) (by omega))).trans ?_
  cases h1 : tabR (k.snd.snd.snd.snd.snd.fst) != 0
  case true => simp only [h1, cond_true]
  simp only [h1, cond_false, in32, Option.bind_some]
  have tail : (Option.bind (fn33 (k.snd.snd.snd.snd.fst, ())) fun v6 => (bif !v6.1 then some (40, ()) else (Option.bind (fn33 (k.snd.snd.snd.snd.snd.fst, ())) fun v7 => (bif !v7.1 then some (40, ()) else some (0, ()))))) = (some (bif (k.snd.snd.snd.snd.fst).all facD && (k.snd.snd.snd.snd.snd.fst).all facD then 0 else 40, ()) : Option (Int × Unit)) := by
    refine (bindSome f4).trans ?_
    cases (k.snd.snd.snd.snd.fst).all facD
    case false => rfl
    refine (bindSome f5).trans ?_
    cases (k.snd.snd.snd.snd.snd.fst).all facD <;> rfl
  cases inB (k.fst, 0, 4294967296, ())
  · rfl
  cases inB (k.snd.fst, 0, 4294967296, ())
  · rfl
  cases inB (k.snd.snd.fst, 0, 4294967296, ())
  · rfl
  cases inB (k.snd.snd.snd.fst, -429496729600, 429496729600, ())
  · rfl
  exact tail
theorem prod_loop (N : Nat) (x : Int × List Int × Unit) (hl : (x.2.1.length : Int) < 2 ^ 62) (hx : OkL x.2.1) : ∀ (n j : Nat) (a : Int) (o : Bool), j ≤ x.2.1.length → x.2.1.length - j < n → I64 a → law21o0 N x (fun w15 w16 => some ((w16, ()), w15, ())) n a (j : Int) o = (some (res ((x.2.1.drop j).foldl (fun p v => mulS p.1 p.2 v) (o, a))) : Option (MT × (Int × Unit)))
  | 0, j, a, o, _, h, _ => by omega
  | n + 1, j, a, o, hj, h, ha => by
    unfold law21o0
    by_cases c : j < x.2.1.length
    · have hv : x.2.1[j]? = some x.2.1[j] := List.getElem?_eq_getElem c
      have hi := hx _ (List.getElem_mem c)
      simp only [idx0, idxB hv, Bool.and_self, cond_true, Int.toNat_natCast, hv, Option.bind_some, mul20, ha, hi, res_1, res_2]
      rw [wrapNat j (by omega), prod_loop N x hl hx n (j + 1) _ _ (by omega) (by omega) (mulS_r _ _ _), List.drop_eq_getElem_cons c, List.foldl_cons]
    · have hc : decide ((j : Int) < (x.2.1.length : Int)) = false := decide_eq_false (by omega)
      rw [hc, show j = x.2.1.length by omega, List.drop_length]; rfl
theorem prod21 (m : MT) (x : Int × List Int × Unit) (hl : (x.2.1.length : Int) < 2 ^ 62) (hx : OkL x.2.1) (ha : I64 x.1) : fn21 m x = some (res (x.2.1.foldl (fun p v => mulS p.1 p.2 v) (m.1, x.1))) := by
  unfold fn21 law21
  exact prod_loop _ x hl hx (10 ^ 30) 0 x.1 m.1 (Nat.zero_le _) (big30 _ (by omega)) ha
theorem prod1 (m : MT) (a b : Int) (u : Unit) (ha : I64 a) (hb : I64 b) : fn21 m (a, [b], u) = some (res (mulS m.1 a b)) :=
  prod21 m (a, [b], u) (by show (([b] : List Int).length : Int) < _; simp) (by intro v hv; have : v = b := (by simpa using hv); rw [this]; exact hb) ha
theorem prod2 (m : MT) (a b c : Int) (u : Unit) (ha : I64 a) (hb : I64 b) (hc : I64 c) : fn21 m (a, [b, c], u) = some (res (mulS (mulS m.1 a b).1 (mulS m.1 a b).2 c)) :=
  prod21 m (a, [b, c], u) (by show (([b, c] : List Int).length : Int) < _; simp) (by
    intro v hv
    have : v = b ∨ v = c := by simpa using hv
    rcases this with rfl | rfl
    · exact hb
    · exact hc) ha
def workS (o : Bool) (a b c d t : Int) : Bool × Int :=
  let p := mulS o a c
  let q := absS p.1 p.2
  let r := mulS q.1 b d
  let s := absS r.1 r.2
  let z := addS s.1 q.2 s.2
  mulS z.1 z.2 t
theorem work16 (m : MT) (x : Int × Int × Int × Int × Int × Unit) (h0 : I64 (x.fst)) (h1 : I64 (x.snd.fst)) (h2 : I64 (x.snd.snd.fst)) (h3 : I64 (x.snd.snd.snd.fst)) (h4 : I64 (x.snd.snd.snd.snd.fst)) : fn16 m x = some (res (workS m.1 (x.fst) (x.snd.fst) (x.snd.snd.fst) (x.snd.snd.snd.fst) (x.snd.snd.snd.snd.fst))) := by
  unfold fn16 law16
  simp only [prod1, abs14, add38, absS_i, addS_r, mulS_r, h0, h1, h2, h3, h4, Option.bind_some, res_1, res_2]
  rfl
theorem work17 (m : Mx1T) (x : Int × Int × Int × Int × Int × Unit) (h0 : I64 (x.fst)) (h1 : I64 (x.snd.fst)) (h2 : I64 (x.snd.snd.fst)) (h3 : I64 (x.snd.snd.snd.fst)) (h4 : I64 (x.snd.snd.snd.snd.fst)) : fn17 m x = some (res (workS m.1 (x.fst) (x.snd.fst) (x.snd.snd.fst) (x.snd.snd.snd.fst) (x.snd.snd.snd.snd.fst))) := by
  unfold fn17 law17
  simp only [mul23, abs46, add41, absS_i, addS_r, mulS_r, h0, h1, h2, h3, h4, Option.bind_some, res_1, res_2]
  rfl
theorem true4 (x : (Int × Int × Unit) × (Int × Int × Unit) × Int × Unit) (h : I64 ((x.fst).fst) ∧ I64 ((x.fst).snd.fst) ∧ I64 ((x.snd.fst).fst) ∧ I64 ((x.snd.fst).snd.fst) ∧ I64 (x.snd.snd.fst)) : fn4 x = some (true, ()) := by
  unfold fn4 law4
  obtain ⟨h0, h1, h2, h3, h4⟩ := h
  refine (bindSome (work16 (false, ()) _ h0 h1 h2 h3 h4)).trans ((bindSome (work17 (false, ()) _ h0 h1 h2 h3 h4)).trans ?_)
  simp only [beq_self_eq_true, cond_true]
def gripS (o : Bool) (k : MakeT) (t : TyreT) : Bool × Int :=
  let p := evalS o (k.snd.snd.snd.snd.fst) (t.fst)
  let q := evalS p.1 (k.snd.snd.snd.snd.snd.fst) (t.snd.fst)
  mulS q.1 p.2 q.2
theorem grip13 (m : MT) (x : MakeT × TyreT × Unit) (hk : OkM x.1) (h4 : (x.1.snd.snd.snd.snd.fst).length ≤ 40) (h5 : (x.1.snd.snd.snd.snd.snd.fst).length ≤ 40) (h0 : I64 ((x.snd.fst).fst)) (h1 : I64 ((x.snd.fst).snd.fst)) : fn13 m x = some (res (gripS m.1 x.1 (x.snd.fst))) := by
  unfold fn13 law13
  refine (bindSome (eval10 m (x.1.snd.snd.snd.snd.fst, (x.snd.fst).fst, ()) (by show ((x.1.snd.snd.snd.snd.fst).length : Int) < _; omega) hk.hot h0)).trans ?_
  refine (bindSome (eval10 _ (x.1.snd.snd.snd.snd.snd.fst, (x.snd.fst).2) (by show ((x.1.snd.snd.snd.snd.snd.fst).length : Int) < _; omega) hk.old h1)).trans ?_
  refine (bindSome (prod1 _ _ _ () (evalS_r _ _ _ hk.hot) (evalS_r _ _ _ hk.old))).trans rfl
theorem grip14 (m : Mx1T) (x : KT × TT × Unit) (hk : OkM x.1) (h4 : (x.1.snd.snd.snd.snd.fst).length ≤ 40) (h5 : (x.1.snd.snd.snd.snd.snd.fst).length ≤ 40) (h0 : I64 ((x.snd.fst).fst)) (h1 : I64 ((x.snd.fst).snd.fst)) : fn14 m x = some (res (gripS m.1 x.1 (x.snd.fst))) := by
  unfold fn14 law14
  refine (bindSome (eval11 m (x.1.snd.snd.snd.snd.fst, (x.snd.fst).fst, ()) (by show ((x.1.snd.snd.snd.snd.fst).length : Int) < _; omega) hk.hot h0)).trans ?_
  refine (bindSome (eval11 _ (x.1.snd.snd.snd.snd.snd.fst, (x.snd.fst).2) (by show ((x.1.snd.snd.snd.snd.snd.fst).length : Int) < _; omega) hk.old h1)).trans ?_
  refine (bindSome (mul23 _ _ (evalS_r _ _ _ hk.hot) (evalS_r _ _ _ hk.old))).trans rfl
/-- What of a number does not fit, and the nearest that does. -/
def ov (v : Int) : Bool := decide (v > 9223372036854775807) || decide (v < -9223372036854775808)
def sv (v : Int) : Int := (satS false v).2
theorem satS_eq (o : Bool) (v : Int) : satS o v = (o || ov v, sv v) := by
  unfold sv satS ov
  by_cases h1 : v > 9223372036854775807
  · simp [h1]
  · by_cases h2 : v < -9223372036854775808
    · simp [h1, h2]
    · simp [h1, h2]
def turnHeat (k : MakeT) (t : TyreT) (w dt : Int) : Int := clampV (sv (sv (t.fst + sv (mulV (k.snd.fst) w)) - sv (mulV (sv (mulV (k.snd.snd.fst) (sv (t.fst - k.snd.snd.snd.fst)))) dt))) (-858993459200) 8589934592000
def turnWorn (k : MakeT) (t : TyreT) (w : Int) : Int := clampV (sv (t.snd.fst + sv (mulV (k.fst) w))) 0 4294967296
def turnOver (k : MakeT) (t : TyreT) (w dt : Int) : Bool := ov (mulV (k.snd.fst) w) || (ov (t.fst + sv (mulV (k.snd.fst) w)) || (ov (t.fst - k.snd.snd.snd.fst) || (ov (mulV (k.snd.snd.fst) (sv (t.fst - k.snd.snd.snd.fst))) || (ov (mulV (sv (mulV (k.snd.snd.fst) (sv (t.fst - k.snd.snd.snd.fst)))) dt) || (ov (sv (t.fst + sv (mulV (k.snd.fst) w)) - sv (mulV (sv (mulV (k.snd.snd.fst) (sv (t.fst - k.snd.snd.snd.fst)))) dt)) || (ov (mulV (k.fst) w) || ov (t.snd.fst + sv (mulV (k.fst) w))))))))
theorem turn8 (m : MT) (x : MakeT × TyreT × Int × Int × Unit) (hk : OkM x.1) (h0 : I64 ((x.snd.fst).fst)) (h1 : I64 ((x.snd.fst).snd.fst)) (h2 : I64 (x.snd.snd.fst)) (h3 : I64 (x.snd.snd.snd.fst)) : fn8 m x = some ((m.1 || turnOver x.1 (x.snd.fst) (x.snd.snd.fst) (x.snd.snd.snd.fst), ()), (turnHeat x.1 (x.snd.fst) (x.snd.snd.fst) (x.snd.snd.snd.fst), turnWorn x.1 (x.snd.fst) (x.snd.snd.fst), ()), ()) := by
  unfold fn8 law8
  simp only [prod1, prod2, add38, sub16, clamp37, addS_r, mulS_r, subS_r, hk.rub, hk.warm, hk.cool, hk.air, h0, h1, h2, h3, Option.bind_some, res_1, res_2]
  simp only [addS, subS, mulS, satS_eq, turnOver, turnHeat, turnWorn, Bool.or_assoc]
theorem turn9 (m : Mx1T) (x : KT × TT × Int × Int × Unit) (hk : OkM x.1) (h0 : I64 ((x.snd.fst).fst)) (h1 : I64 ((x.snd.fst).snd.fst)) (h2 : I64 (x.snd.snd.fst)) (h3 : I64 (x.snd.snd.snd.fst)) : fn9 m x = some ((m.1 || turnOver x.1 (x.snd.fst) (x.snd.snd.fst) (x.snd.snd.snd.fst), ()), (turnHeat x.1 (x.snd.fst) (x.snd.snd.fst) (x.snd.snd.snd.fst), turnWorn x.1 (x.snd.fst) (x.snd.snd.fst), ()), ()) := by
  unfold fn9 law9
  simp only [mul23, add41, sub22, clamp40, addS_r, mulS_r, subS_r, hk.rub, hk.warm, hk.cool, hk.air, h0, h1, h2, h3, Option.bind_some, res_1, res_2]
  simp only [addS, subS, mulS, satS_eq, turnOver, turnHeat, turnWorn, Bool.or_assoc]
  congr 3
  generalize ov (mulV (x.1.fst) (x.snd.snd.fst)) = b1
  generalize ov ((x.snd.fst).snd.fst + sv (mulV (x.1.fst) (x.snd.snd.fst))) = b2
  cases m.1 <;> cases b1 <;> cases b2 <;> simp
theorem clamp_i2 (b lo hi : Int) (h1 : I64 lo) (h2 : I64 hi) (hb : I64 b) : I64 (clampV b lo hi) := by
  unfold clampV
  split
  · exact h1
  · split
    · exact h2
    · exact hb
theorem sv_r (v : Int) : I64 (sv v) := satS_range _ _
theorem few7 (k : MakeT) : fn7 (k, ()) = some (decide ((k.snd.snd.snd.snd.fst).length ≤ 40) && decide ((k.snd.snd.snd.snd.snd.fst).length ≤ 40), ()) := by
  unfold fn7 law7
  simp only
  have e1 : decide (((k.snd.snd.snd.snd.fst).length : Int) ≤ 40) = decide ((k.snd.snd.snd.snd.fst).length ≤ 40) := by simp only [decide_eq_decide]; omega
  have e2 : decide (((k.snd.snd.snd.snd.snd.fst).length : Int) ≤ 40) = decide ((k.snd.snd.snd.snd.snd.fst).length ≤ 40) := by simp only [decide_eq_decide]; omega
  rw [e1, e2]
  cases decide ((k.snd.snd.snd.snd.fst).length ≤ 40) <;> rfl
theorem true3 (x : MakeT × TyreT × (Int × Int × Unit) × Unit) (hk : OkM x.1) (h : I64 ((x.snd.fst).fst) ∧ I64 ((x.snd.fst).snd.fst) ∧ I64 ((x.snd.snd.fst).fst) ∧ I64 ((x.snd.snd.fst).snd.fst)) : fn3 x = some (true, ()) := by
  obtain ⟨k, t, ⟨w, dt, u⟩, u2⟩ := x
  have hk : OkM k := hk
  obtain ⟨h0, h1, h2, h3⟩ := h
  unfold fn3 law3
  refine (bindSome (few7 k)).trans ?_
  cases hf : (decide ((k.snd.snd.snd.snd.fst).length ≤ 40) && decide ((k.snd.snd.snd.snd.snd.fst).length ≤ 40))
  case false => rfl
  simp only [Bool.and_eq_true, decide_eq_true_eq] at hf
  obtain ⟨h4, h5⟩ := hf
  simp only [Bool.not_true, cond_false]
  refine (bindSome (turn8 (false, ()) (k, t, w, dt, u) hk h0 h1 h2 h3)).trans ((bindSome (turn9 (false, ()) (k, t, w, dt, u) hk h0 h1 h2 h3)).trans ?_)
  refine (bindSome (right11 k h4 h5)).trans ((bindSome (right12 k h4 h5)).trans ?_)
  simp only [bne_self_eq_false, cond_false, beq_self_eq_true, Bool.not_true]
  refine (bindSome (grip13 _ (k, t, ()) hk h4 h5 h0 h1)).trans ((bindSome (grip14 _ (k, t, ()) hk h4 h5 h0 h1)).trans ?_)
  simp only [beq_self_eq_true, cond_true]
/-- A make that is right. -/
structure RightM (k : MakeT) : Prop where
  hot : RightT (k.snd.snd.snd.snd.fst)
  old : RightT (k.snd.snd.snd.snd.snd.fst)
  hotY : ∀ i, i < (k.snd.snd.snd.snd.fst).length → 0 ≤ tY (k.snd.snd.snd.snd.fst) i ∧ tY (k.snd.snd.snd.snd.fst) i ≤ 8589934592
  oldY : ∀ i, i < (k.snd.snd.snd.snd.snd.fst).length → 0 ≤ tY (k.snd.snd.snd.snd.snd.fst) i ∧ tY (k.snd.snd.snd.snd.snd.fst) i ≤ 8589934592
  rub : 0 ≤ k.fst ∧ k.fst ≤ 4294967296
  warm : 0 ≤ k.snd.fst ∧ k.snd.fst ≤ 4294967296
  cool : 0 ≤ k.snd.snd.fst ∧ k.snd.snd.fst ≤ 4294967296
  air : -429496729600 ≤ k.snd.snd.snd.fst ∧ k.snd.snd.snd.fst ≤ 429496729600
theorem inB_true {a lo hi : Int} (h : inB (a, lo, hi, ()) = true) : lo ≤ a ∧ a ≤ hi := by
  unfold inB at h
  simpa using h
theorem inB_of {a lo hi : Int} (h : lo ≤ a ∧ a ≤ hi) : inB (a, lo, hi, ()) = true := by
  unfold inB
  simp [h]
theorem rightM_of {k : MakeT} (h : makeR k = 0) : RightM k := by
  unfold makeR at h
  cases h0 : tabR (k.snd.snd.snd.snd.fst) != 0
  case true =>
    rw [h0] at h
    have h : tabR (k.snd.snd.snd.snd.fst) = 0 := h
    simp [h] at h0
  rw [h0] at h
  cases h1 : tabR (k.snd.snd.snd.snd.snd.fst) != 0
  case true =>
    rw [h1] at h
    have h : tabR (k.snd.snd.snd.snd.snd.fst) = 0 := h
    simp [h] at h1
  rw [h1] at h
  cases h2 : (inB (k.fst, 0, 4294967296, ()) && (inB (k.snd.fst, 0, 4294967296, ()) && (inB (k.snd.snd.fst, 0, 4294967296, ()) && (inB (k.snd.snd.snd.fst, -429496729600, 429496729600, ()) && ((k.snd.snd.snd.snd.fst).all facD && (k.snd.snd.snd.snd.snd.fst).all facD)))))
  case false =>
    rw [h2] at h
    have h : (40 : Int) = 0 := h
    omega
  simp only [Bool.and_eq_true] at h2
  obtain ⟨g0, g1, g2, g3, g4, g5⟩ := h2
  exact ⟨right13 h0, right13 h1, fun i hi => inB_true (List.all_eq_true.1 g4 (nth (k.snd.snd.snd.snd.fst) i) (nth_mem hi)), fun i hi => inB_true (List.all_eq_true.1 g5 (nth (k.snd.snd.snd.snd.snd.fst) i) (nth_mem hi)), inB_true g0, inB_true g1, inB_true g2, inB_true g3⟩
theorem eval_two {l : List Dot} (h : RightT l) (hY : ∀ i, i < l.length → 0 ≤ tY l i ∧ tY l i ≤ 8589934592) (o : Bool) (a : Int) : (evalS o l a).1 = o ∧ 0 ≤ (evalS o l a).2 ∧ (evalS o l a).2 ≤ 8589934592 := by
  obtain ⟨e1, e2, e3⟩ := h.eval o a
  obtain ⟨c1, -, -⟩ := h.cell a
  have v1 := hY (cellV l a) (by omega)
  have v2 := hY (cellV l a + 1) c1
  rcases Int.le_total (tY l (cellV l a)) (tY l (cellV l a + 1)) with g | g
  · have := e2 g; exact ⟨e1, by omega, by omega⟩
  · have := e3 g; exact ⟨e1, by omega, by omega⟩
theorem sv_in {v : Int} (h : I64 v) : sv v = v := by unfold sv; rw [satS_in h]
theorem ov_in {v : Int} (h : I64 v) : ov v = false := by
  unfold I64 at h
  unfold ov
  rw [decide_eq_false (by omega), decide_eq_false (by omega)]; rfl
theorem mulV_le {a b A B : Int} (ha : 0 ≤ a ∧ a ≤ A) (hb : 0 ≤ b ∧ b ≤ B) {k : Int} (hk : A * B ≤ k * 4294967296) : 0 ≤ mulV a b ∧ mulV a b ≤ k := by
  unfold mulV
  have h1 : 0 ≤ a * b := Int.mul_nonneg ha.1 hb.1
  have h2 : a * b ≤ A * B := Int.mul_le_mul ha.2 hb.2 hb.1 (by omega)
  exact ⟨rnd_nonneg (by decide) h1, rnd_le (by decide) (by omega)⟩
theorem mulV_comm (a b : Int) : mulV a b = mulV b a := by unfold mulV; rw [Int.mul_comm]
/-- What a tyre is behind any time: all fits, and what it comes to. -/
theorem turn_fits {k : MakeT} (h : RightM k) {t : TyreT} (h0 : -858993459200 ≤ t.fst ∧ t.fst ≤ 8589934592000) (h1 : 0 ≤ t.snd.fst ∧ t.snd.fst ≤ 4294967296) {w dt : Int} (hw : 0 ≤ w ∧ w ≤ 4503599627370496) (hd : 0 ≤ dt ∧ dt ≤ 4294967296) :
    turnOver k t w dt = false ∧ turnHeat k t w dt = clampV (t.fst + mulV (k.snd.fst) w - mulV (mulV (k.snd.snd.fst) (t.fst - k.snd.snd.snd.fst)) dt) (-858993459200) 8589934592000 ∧ turnWorn k t w = clampV (t.snd.fst + mulV (k.fst) w) 0 4294967296 ∧ 0 ≤ mulV (k.snd.fst) w ∧ 0 ≤ mulV (k.fst) w ∧ (0 ≤ t.fst - k.snd.snd.snd.fst → 0 ≤ mulV (mulV (k.snd.snd.fst) (t.fst - k.snd.snd.snd.fst)) dt ∧ mulV (mulV (k.snd.snd.fst) (t.fst - k.snd.snd.snd.fst)) dt ≤ t.fst - k.snd.snd.snd.fst) ∧ (t.fst - k.snd.snd.snd.fst ≤ 0 → t.fst - k.snd.snd.snd.fst ≤ mulV (mulV (k.snd.snd.fst) (t.fst - k.snd.snd.snd.fst)) dt ∧ mulV (mulV (k.snd.snd.fst) (t.fst - k.snd.snd.snd.fst)) dt ≤ 0) := by
  have ha := h.air
  have m1 := mulV_le h.warm hw (k := 4503599627370496) (by omega)
  have m0 := mulV_le h.rub hw (k := 4503599627370496) (by omega)
  have mc := mulV_between (c := t.fst - k.snd.snd.snd.fst) h.cool
  have md := mulV_between (c := mulV (k.snd.snd.fst) (t.fst - k.snd.snd.snd.fst)) hd
  rw [mulV_comm (t.fst - k.snd.snd.snd.fst) (k.snd.snd.fst)] at mc
  have c1 : -9448928051200 ≤ mulV (k.snd.snd.fst) (t.fst - k.snd.snd.snd.fst) ∧ mulV (k.snd.snd.fst) (t.fst - k.snd.snd.snd.fst) ≤ 9448928051200 := by
    rcases Int.le_total 0 (t.fst - k.snd.snd.snd.fst) with g | g
    · have := mc.1 g; omega
    · have := mc.2 g; omega
  have c2 : -9448928051200 ≤ mulV (mulV (k.snd.snd.fst) (t.fst - k.snd.snd.snd.fst)) dt ∧ mulV (mulV (k.snd.snd.fst) (t.fst - k.snd.snd.snd.fst)) dt ≤ 9448928051200 := by
    rcases Int.le_total 0 (mulV (k.snd.snd.fst) (t.fst - k.snd.snd.snd.fst)) with g | g
    · have := md.1 g; omega
    · have := md.2 g; omega
  have i1 : I64 (mulV (k.snd.fst) w) := by unfold I64; omega
  have i0 : I64 (mulV (k.fst) w) := by unfold I64; omega
  have i2 : I64 (t.fst - k.snd.snd.snd.fst) := by unfold I64; omega
  have i3 : I64 (mulV (k.snd.snd.fst) (t.fst - k.snd.snd.snd.fst)) := by unfold I64; omega
  have i4 : I64 (mulV (mulV (k.snd.snd.fst) (t.fst - k.snd.snd.snd.fst)) dt) := by unfold I64; omega
  have i5 : I64 (t.fst + mulV (k.snd.fst) w) := by unfold I64; omega
  have i6 : I64 (t.fst + mulV (k.snd.fst) w - mulV (mulV (k.snd.snd.fst) (t.fst - k.snd.snd.snd.fst)) dt) := by unfold I64; omega
  have i7 : I64 (t.snd.fst + mulV (k.fst) w) := by unfold I64; omega
  refine ⟨?_, ?_, ?_, m1.1, m0.1, fun g => ?_, fun g => ?_⟩
  · unfold turnOver
    simp only [sv_in, ov_in, i0, i1, i2, i3, i4, i5, i6, i7, Bool.or_self]
  · unfold turnHeat
    simp only [sv_in, i0, i1, i2, i3, i4, i5, i6, i7]
  · unfold turnWorn
    simp only [sv_in, i0, i7]
  · have a1 := mc.1 g
    have a2 := md.1 a1.1
    omega
  · have a1 := mc.2 g
    have a2 := md.2 a1.2
    omega
theorem clamp_b (v lo hi : Int) (h : lo ≤ hi) : lo ≤ clampV v lo hi ∧ clampV v lo hi ≤ hi := by
  unfold clampV
  split
  · omega
  · split <;> omega
theorem right18 (k : MakeT) (t : TyreT) (a b : Int) (u v : Unit) (h4 : (k.snd.snd.snd.snd.fst).length ≤ 40) (h5 : (k.snd.snd.snd.snd.snd.fst).length ≤ 40) : fn18 (k, t, (a, b, u), v) = some ((makeR k == 0) && (inB (t.fst, -858993459200, 8589934592000, ()) && (inB (t.snd.fst, 0, 4294967296, ()) && (inB (a, 0, 4503599627370496, ()) && inB (b, 0, 4294967296, ())))), ()) := by
  unfold fn18 law18
  refine (bindSome (right11 k h4 h5)).trans ?_
  simp only [in19, Option.bind_some]
  cases makeR k == 0 <;> cases inB (t.fst, -858993459200, 8589934592000, ()) <;> cases inB (t.snd.fst, 0, 4294967296, ()) <;> cases inB (a, 0, 4503599627370496, ()) <;> rfl
theorem true5 (x : MakeT × TyreT × (Int × Int × Unit) × Unit) (hk : OkM x.1) (h : I64 ((x.snd.fst).fst) ∧ I64 ((x.snd.fst).snd.fst) ∧ I64 ((x.snd.snd.fst).fst) ∧ I64 ((x.snd.snd.fst).snd.fst)) : fn5 x = some (true, ()) := by
  obtain ⟨k, t, ⟨w, dt, u⟩, u2⟩ := x
  have hk : OkM k := hk
  obtain ⟨h0, h1, h2, h3⟩ := h
  unfold fn5 law5
  refine (bindSome (few7 k)).trans ?_
  cases hf : (decide ((k.snd.snd.snd.snd.fst).length ≤ 40) && decide ((k.snd.snd.snd.snd.snd.fst).length ≤ 40))
  case false => rfl
  simp only [Bool.and_eq_true, decide_eq_true_eq] at hf
  obtain ⟨h4, h5⟩ := hf
  simp only [Bool.not_true, cond_false]
  refine (bindSome (right18 k t w dt u u2 h4 h5)).trans ?_
  cases hr : ((makeR k == 0) && (inB (t.fst, -858993459200, 8589934592000, ()) && (inB (t.snd.fst, 0, 4294967296, ()) && (inB (w, 0, 4503599627370496, ()) && inB (dt, 0, 4294967296, ())))))
  case false => simp only [Bool.not_false, cond_true]
  simp only [Bool.and_eq_true, beq_iff_eq] at hr
  obtain ⟨g0, g1, g2, g3, g4⟩ := hr
  have hm := rightM_of g0
  have e0 := inB_true g1
  have e1 := inB_true g2
  have e2 := inB_true g3
  have e3 := inB_true g4
  obtain ⟨q1, q2, q3, q4, q5, q6, q7⟩ := turn_fits hm e0 e1 e2 e3
  simp only [Bool.not_true, cond_false]
  refine (bindSome (turn8 (false, ()) (k, t, w, dt, u) hk h0 h1 h2 h3)).trans ?_
  simp only [Bool.false_or]
  rw [q1]
  have w1 : t.snd.fst ≤ turnWorn k t w := by
    rw [q3]; unfold clampV
    split
    · omega
    · split <;> omega
  have b1 : 0 ≤ turnWorn k t w ∧ turnWorn k t w ≤ 4294967296 := by rw [q3]; exact clamp_b _ _ _ (by decide)
  have b0 : -858993459200 ≤ turnHeat k t w dt ∧ turnHeat k t w dt ≤ 8589934592000 := by rw [q2]; exact clamp_b _ _ _ (by decide)
  generalize turnWorn k t w = wn at *
  generalize turnHeat k t w dt = ht at *
  rw [decide_eq_true (show wn ≥ t.snd.fst from w1)]
  simp only [cond_true]
  refine (bindSome (right18 k (ht, wn, ()) w dt u u2 h4 h5)).trans ?_
  have eb0 : inB ((ht, wn, ()).fst, -858993459200, 8589934592000, ()) = true := inB_of b0
  have eb1 : inB ((ht, wn, ()).snd.fst, 0, 4294967296, ()) = true := inB_of b1
  have em : (makeR k == 0) = true := by simp [g0]
  rw [eb0, eb1, em, g3, g4]
  simp only [Bool.and_self, cond_true]
  refine (bindSome (grip13 (false, ()) (k, (ht, wn, ()), ()) hk h4 h5 (show I64 ht by unfold I64; omega) (show I64 wn by unfold I64; omega))).trans ?_
  obtain ⟨p1, p2, p3⟩ := eval_two hm.hot hm.hotY false ht
  obtain ⟨r1, r2, r3⟩ := eval_two hm.old hm.oldY false wn
  have hg : gripS false k (ht, wn, ()) = (false, mulV (evalS false (k.snd.snd.snd.snd.fst) ht).2 (evalS false (k.snd.snd.snd.snd.snd.fst) wn).2) ∧ 0 ≤ mulV (evalS false (k.snd.snd.snd.snd.fst) ht).2 (evalS false (k.snd.snd.snd.snd.snd.fst) wn).2 ∧ mulV (evalS false (k.snd.snd.snd.snd.fst) ht).2 (evalS false (k.snd.snd.snd.snd.snd.fst) wn).2 ≤ 17179869184 := by
    have hmul := mulV_le ⟨p2, p3⟩ ⟨r2, r3⟩ (k := 17179869184) (by omega)
    refine ⟨?_, hmul⟩
    unfold gripS
    show mulS (evalS (evalS false (k.snd.snd.snd.snd.fst) ht).1 (k.snd.snd.snd.snd.snd.fst) wn).1 (evalS false (k.snd.snd.snd.snd.fst) ht).2 (evalS (evalS false (k.snd.snd.snd.snd.fst) ht).1 (k.snd.snd.snd.snd.snd.fst) wn).2 = _
    rw [p1, r1]
    exact satS_in (by unfold I64; omega)
  obtain ⟨g6, g7, g8⟩ := hg
  show Option.bind (fn19 ((gripS false k (ht, wn, ())).2, 0, 17179869184, ())) _ = _
  rw [g6, in19]
  show (bif inB (mulV (evalS false (k.snd.snd.snd.snd.fst) ht).2 (evalS false (k.snd.snd.snd.snd.snd.fst) wn).2, 0, 17179869184, ()) then (bif !false then some (true, ()) else some (false, ())) else some (false, ())) = _
  rw [inB_of ⟨g7, g8⟩]; rfl
theorem true6 (x : MakeT × TyreT × Int × Unit) (hk : OkM x.1) (h : I64 ((x.snd.fst).fst) ∧ I64 ((x.snd.fst).snd.fst) ∧ I64 (x.snd.snd.fst)) : fn6 x = some (true, ()) := by
  obtain ⟨k, t, dt, u2⟩ := x
  have hk : OkM k := hk
  obtain ⟨h0, h1, h3⟩ := h
  unfold fn6 law6
  refine (bindSome (few7 k)).trans ?_
  cases hf : (decide ((k.snd.snd.snd.snd.fst).length ≤ 40) && decide ((k.snd.snd.snd.snd.snd.fst).length ≤ 40))
  case false => rfl
  simp only [Bool.and_eq_true, decide_eq_true_eq] at hf
  obtain ⟨h4, h5⟩ := hf
  simp only [Bool.not_true, cond_false]
  refine (bindSome (right18 k t 0 dt u2 () h4 h5)).trans ?_
  cases hr : ((makeR k == 0) && (inB (t.fst, -858993459200, 8589934592000, ()) && (inB (t.snd.fst, 0, 4294967296, ()) && (inB (0, 0, 4503599627370496, ()) && inB (dt, 0, 4294967296, ())))))
  case false => simp only [Bool.not_false, cond_true]
  simp only [Bool.and_eq_true, beq_iff_eq] at hr
  obtain ⟨g0, g1, g2, g3, g4⟩ := hr
  have hm := rightM_of g0
  have e0 := inB_true g1
  have e1 := inB_true g2
  have e3 := inB_true g4
  obtain ⟨q1, q2, q3, q4, q5, q6, q7⟩ := turn_fits hm e0 e1 (w := 0) ⟨by decide, by decide⟩ e3
  have z : ∀ a : Int, mulV a 0 = 0 := fun a => by unfold mulV; rw [Int.mul_zero]; exact rnd_zero (by decide)
  rw [z] at q2 q3
  simp only [Bool.not_true, cond_false]
  refine (bindSome (turn8 (false, ()) (k, t, 0, dt, u2) hk h0 h1 I64_zero h3)).trans ?_
  simp only [Bool.false_or]
  have ha := hm.air
  have hw : turnWorn k t 0 = t.snd.fst := by
    rw [q3]; unfold clampV
    rw [if_neg (by omega), if_neg (by omega)]; omega
  show (bif turnWorn k t 0 != t.snd.fst then _ else (bif decide (t.fst ≥ k.snd.snd.snd.fst) then (bif decide (turnHeat k t 0 dt ≤ t.fst) then (bif decide (turnHeat k t 0 dt ≥ IntKind.i64.wrap (k.snd.snd.snd.fst - 1)) then some (true, ()) else some (false, ())) else some (false, ())) else (bif decide (turnHeat k t 0 dt ≥ t.fst) then (bif decide (turnHeat k t 0 dt ≤ IntKind.i64.wrap (k.snd.snd.snd.fst + 1)) then some (true, ()) else some (false, ())) else some (false, ())))) = _
  rw [hw, bne_self_eq_false, i64_in (k.snd.snd.snd.fst - 1) (by omega), i64_in (k.snd.snd.snd.fst + 1) (by omega), q2]
  simp only [cond_false]
  by_cases g : t.fst ≥ k.snd.snd.snd.fst
  · have b := q6 (by omega)
    rw [decide_eq_true g]
    have c1 : clampV (t.fst + 0 - mulV (mulV (k.snd.snd.fst) (t.fst - k.snd.snd.snd.fst)) dt) (-858993459200) 8589934592000 = t.fst - mulV (mulV (k.snd.snd.fst) (t.fst - k.snd.snd.snd.fst)) dt := by
      unfold clampV
      rw [if_neg (by omega), if_neg (by omega)]; omega
    rw [c1, decide_eq_true (show t.fst - mulV (mulV (k.snd.snd.fst) (t.fst - k.snd.snd.snd.fst)) dt ≤ t.fst by omega), decide_eq_true (show t.fst - mulV (mulV (k.snd.snd.fst) (t.fst - k.snd.snd.snd.fst)) dt ≥ k.snd.snd.snd.fst - 1 by omega)]; rfl
  · have b := q7 (by omega)
    rw [decide_eq_false g]
    have c1 : clampV (t.fst + 0 - mulV (mulV (k.snd.snd.fst) (t.fst - k.snd.snd.snd.fst)) dt) (-858993459200) 8589934592000 = t.fst - mulV (mulV (k.snd.snd.fst) (t.fst - k.snd.snd.snd.fst)) dt := by
      unfold clampV
      rw [if_neg (by omega), if_neg (by omega)]; omega
    rw [c1, decide_eq_true (show t.fst - mulV (mulV (k.snd.snd.fst) (t.fst - k.snd.snd.snd.fst)) dt ≥ t.fst by omega), decide_eq_true (show t.fst - mulV (mulV (k.snd.snd.fst) (t.fst - k.snd.snd.snd.fst)) dt ≤ k.snd.snd.snd.fst + 1 by omega)]; rfl
theorem okM {k : MakeT} (h : Sh.ok MakeSh k) : OkM k := ⟨okI h.1, okI h.2.1, okI h.2.2.1, okI h.2.2.2.1, okDs h.2.2.2.2.1, okDs h.2.2.2.2.2.1⟩
theorem true3o (y : Sh.Ts [MakeSh, TyreSh, .st [.int .i64, .int .i64]]) (hy : Sh.oks [MakeSh, TyreSh, .st [.int .i64, .int .i64]] y) : fn3 y = some (true, ()) := true3 y (okM hy.1) ⟨okI hy.2.1.1, okI hy.2.1.2.1, okI hy.2.2.1.1, okI hy.2.2.1.2.1⟩
theorem true4o (y : Sh.Ts [.st [.int .i64, .int .i64], .st [.int .i64, .int .i64], .int .i64]) (hy : Sh.oks [.st [.int .i64, .int .i64], .st [.int .i64, .int .i64], .int .i64] y) : fn4 y = some (true, ()) := true4 y ⟨okI hy.1.1, okI hy.1.2.1, okI hy.2.1.1, okI hy.2.1.2.1, okI hy.2.2.1⟩
theorem true5o (y : Sh.Ts [MakeSh, TyreSh, .st [.int .i64, .int .i64]]) (hy : Sh.oks [MakeSh, TyreSh, .st [.int .i64, .int .i64]] y) : fn5 y = some (true, ()) := true5 y (okM hy.1) ⟨okI hy.2.1.1, okI hy.2.1.2.1, okI hy.2.2.1.1, okI hy.2.2.1.2.1⟩
theorem true6o (y : Sh.Ts [MakeSh, TyreSh, .int .i64]) (hy : Sh.oks [MakeSh, TyreSh, .int .i64] y) : fn6 y = some (true, ()) := true6 y (okM hy.1) ⟨okI hy.2.1.1, okI hy.2.1.2.1, okI hy.2.2.1⟩
end Go.Proofs.Ytjikekkakfamfaa
