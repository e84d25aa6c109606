/- Plain Lean: what the laws of this program's functions come to, in numbers and lists; no program is run here. -/
import Derived.Test.YtamdbejojnfoiaaPPCar3
set_option linter.unusedVariables false
set_option linter.unusedSimpArgs false
set_option maxRecDepth 100000
namespace Go.Proofs.Ytamdbejojnfoiaa
open Go Go.Ab Go.Proofs Go.IntWalk
/- The document's Right (r17), its end; car.Right and the document's are one. -/
theorem lx42o1 (N0 N1 : Nat) (p : Pan) (i : Nat) (r : List Int) (hr : p.2.2.1[i]? = some r) (hl : (r.length : Int) < 2 ^ 62) (k0 : Int → Int → Option (Int × Int × Unit)) : ∀ (n j : Nat) (a b : Int), j ≤ r.length → r.length - j < n → law42o1 N0 N1 (p, ()) (i : Int) k0 n a b (j : Int) = k0 ((r.drop j).foldl (fun a b => if b < a then b else a) a) ((r.drop j).foldl (fun a b => if b > a then b else a) b)
  | 0, j, _, _, _, h => by omega
  | n + 1, j, a, b, hj, h => by
    unfold law42o1
    simp only [idx0, idxB hr, Bool.and_self, cond_true, Int.toNat_natCast, hr, Option.bind_some]
    by_cases hc : j < r.length
    · have hv : r[j]? = some r[j] := List.getElem?_eq_getElem hc
      simp only [idx0, idxB hv, Bool.and_self, cond_true, Int.toNat_natCast, hv, Option.bind_some]
      rw [wrapNat j (by omega), lx42o1 N0 N1 p i r hr hl k0 n (j + 1) _ _ (by omega) (by omega), List.drop_eq_getElem_cons hc, List.foldl_cons, List.foldl_cons]
    · have : decide ((j : Int) < (r.length : Int)) = false := by simp; omega
      simp only [this, cond_false]
      rw [show j = r.length by omega, List.drop_length]; rfl
theorem lx42o0 (N0 N1 : Nat) (hN1 : 100 ≤ N1) (p : Pan) (hp : FewP p) (k0 : Int → Int → Option (Int × Int × Unit)) : ∀ (n j : Nat) (a b : Int), j ≤ p.2.2.1.length → p.2.2.1.length - j < n → law42o0o1 N0 N1 (p, ()) k0 n a b (j : Int) = k0 ((p.2.2.1.drop j).flatten.foldl (fun a b => if b < a then b else a) a) ((p.2.2.1.drop j).flatten.foldl (fun a b => if b > a then b else a) b)
  | 0, j, _, _, _, h => by omega
  | n + 1, j, a, b, hj, h => by
    have h1 := hp.rows
    unfold law42o0o1
    by_cases hc : j < p.2.2.1.length
    · have hr : p.2.2.1[j]? = some p.2.2.1[j] := List.getElem?_eq_getElem hc
      have hl := hp.row p.2.2.1[j] (List.getElem_mem hc)
      simp only [idxB hr, cond_true]
      refine (lx42o1 N0 N1 p j p.2.2.1[j] hr (by omega) _ N1 0 a b (Nat.zero_le _) (by omega)).trans ?_
      rw [wrapNat j (by omega), lx42o0 N0 N1 hN1 p hp k0 n (j + 1) _ _ (by omega) (by omega), List.drop_eq_getElem_cons hc, List.flatten_cons, List.foldl_append, List.foldl_append, List.drop_zero]
    · have : decide ((j : Int) < (p.2.2.1.length : Int)) = false := by simp; omega
      simp only [this, cond_false]
      rw [show j = p.2.2.1.length by omega, List.drop_length]; rfl
theorem lx42 (M0 M1 : Nat) (hM0 : 100 ≤ M0) (hM1 : 100 ≤ M1) (p : Pan) (hp : FewP p) : law42 M0 M1 (p, ()) = some ((boundsP p).1, (boundsP p).2, ()) := by
  unfold law42 boundsP
  refine (bindSome (ex41 p hp)).trans ?_
  show (bif paneR p != 0 then some (0, 0, ()) else _) = _
  cases h : paneR p != 0
  case true => rfl
  obtain ⟨h1, -⟩ := paneR_zero h
  obtain ⟨a1, a2, a3, a4, a5, a6⟩ := counted_le h1
  have hk := hp.rows
  obtain ⟨xs, ys, rows, u⟩ := p
  cases rows with
  | nil =>
    have a3 : 2 ≤ ys.length := a3
    have a5 : 0 = ys.length := a5
    omega
  | cons r rs =>
  cases r with
  | nil =>
    have a1 : 2 ≤ xs.length := a1
    have a6 : 0 = xs.length := a6 [] (by simp)
    omega
  | cons v vs =>
  simp only [cond_false]
  have d0 : decide ((0 : Int) < ((((v :: vs) :: rs).length : Nat) : Int)) = true := decide_eq_true (by rw [List.length_cons]; omega)
  have d1 : decide ((0 : Int) < (((v :: vs).length : Nat) : Int)) = true := decide_eq_true (by rw [List.length_cons]; omega)
  show (bif decide ((0 : Int) ≤ 0) && decide ((0 : Int) < ((((v :: vs) :: rs).length : Nat) : Int)) then (bif decide ((0 : Int) ≤ 0) && decide ((0 : Int) < (((v :: vs).length : Nat) : Int)) then law42o0o1 M0 M1 _ _ M0 v v ((0 : Nat) : Int) else none) else none) = _
  rw [d0, d1]
  refine (lx42o0 M0 M1 hM1 (xs, ys, (v :: vs) :: rs, u) hp _ M0 0 v v (Nat.zero_le _) (by have : ((v :: vs) :: rs).length ≤ 40 := hk; show ((v :: vs) :: rs).length - 0 < M0; omega)).trans ?_
  show some (List.foldl _ v (v :: (vs ++ rs.flatten)), List.foldl _ v (v :: (vs ++ rs.flatten)), ()) = some (minL (v :: (vs ++ rs.flatten)), maxL (v :: (vs ++ rs.flatten)), ())
  unfold minL maxL
  simp only [List.foldl_cons, List.tail_cons, List.headD_cons]
  rw [if_neg (Int.lt_irrefl v)]
theorem ex42 (p : Pan) (hp : FewP p) : fn42 (p, ()) = some ((boundsP p).1, (boundsP p).2, ()) := lx42 _ _ (by decide) (by decide) p hp
theorem ex22 (p : Pan) (hp : FewP p) : fn22 (p, ()) = some (tyreR p, ()) := by
  unfold fn22 law22
  refine (bindSome (ex41 p hp)).trans ?_
  show (bif paneR p != 0 then some (paneR p, ()) else _) = _
  cases h : paneR p != 0
  case true => unfold tyreR; rw [h]; rfl
  rw [tyreR_eq h]
  obtain ⟨x, xs, y, ys, v, vs, e1, e2, e3⟩ := pane_heads h
  refine (bindSome (ex42 p hp)).trans ?_
  rw [show IntKind.i64.wrap ((4, ()).fst * 4294967296) = 17179869184 by decide]
  obtain ⟨p1, p2, p3, u⟩ := p
  have e1 : p1 = x :: xs := e1
  have e2 : p2 = y :: ys := e2
  subst e1 e2
  have d0 : decide ((0 : Int) < (((x :: xs).length : Nat) : Int)) = true := decide_eq_true (by rw [List.length_cons]; omega)
  have d1 : decide ((0 : Int) < (((y :: ys).length : Nat) : Int)) = true := decide_eq_true (by rw [List.length_cons]; omega)
  show (bif decide ((0 : Int) ≤ 0) && decide ((0 : Int) < (((x :: xs).length : Nat) : Int)) then (bif decide (x < 0) then some (40, ()) else (bif decide ((0 : Int) ≤ 0) && decide ((0 : Int) < (((y :: ys).length : Nat) : Int)) then (bif decide (y < 0) then some (40, ()) else _) else none)) else none) = _
  rw [d0, d1]
  show (bif decide (x < 0) then some (40, ()) else (bif decide (y < 0) then some (40, ()) else _)) = some (bif decide (x < 0) || (decide (y < 0) || _) then (40 : Int) else 0, ())
  cases decide (x < 0)
  case true => rfl
  cases decide (y < 0)
  case true => rfl
  simp only [cond_false, Bool.false_or]
  cases decide ((boundsP (x :: xs, y :: ys, p3, u)).1 < 0)
  case true => rfl
  cases decide ((boundsP (x :: xs, y :: ys, p3, u)).2 > 17179869184) <;> rfl
theorem bytes8b : Try.prog.types[39].bytes = 8 := by kernel_rfl
/-- The errors' list, scanned. -/
def firstAt (l : List Int) : Int × Int := match scanL (fun v => v != 0) l 0 with
  | some (i, v) => (v, i)
  | none => (0, 0)
theorem room (n k : Nat) (hn : n + k ≤ 100) : (decide ((n + k) * 8 ≤ 140737488355328) && decide (n + k ≤ 9223372036854775807)) = true := by
  rw [decide_eq_true (by omega), decide_eq_true (by omega)]; rfl
theorem lx8o1 (N0 N1 : Nat) (x : Car × Unit) (w109 : Nat) (w110 : List Int) (v113 v114 v115 v116 v117 v118 v119 v121 v122 : Int × Unit) (l : List Int) (hl : (((w110.append [v113.1]).append [v114.1, v115.1, v116.1, v117.1]).append [v118.1, v119.1, v121.1, v122.1]) = l) (hw : w109 + 9 = l.length) (hs : l.length < 100) (hN : 100 ≤ N1) : law8o1o1 N0 N1 x w109 w110 v113 v114 v115 v116 v117 v118 v119 v121 v122 (fun w140 w141 => some (w140, w141, ())) (some (0, 0, ())) N1 0 = some ((firstAt l).1, (firstAt l).2, ()) := by
  have hw2 : ((w109 + 1 + 4 + 4 : Nat) : Int) = (l.length : Int) := by omega
  refine (scan_law l (fun v => v != 0) (fun i v => some (v, i, ())) (some (0, 0, ())) (fun n j => law8o1o1 N0 N1 x w109 w110 v113 v114 v115 v116 v117 v118 v119 v121 v122 (fun w140 w141 => some (w140, w141, ())) (some (0, 0, ())) n j) (by omega) (fun n j v hv => ?_) (fun n j hj => ?_) N1 0 (Nat.zero_le _) (by omega)).trans ?_
  · conv => lhs; unfold law8o1o1
    rw [hl, hw2]
    simp only [idx0, idxB hv, Bool.and_self, cond_true, Int.toNat_natCast, hv, Option.bind_some]
  · conv => lhs; unfold law8o1o1
    rw [hw2]
    simp only [hj, decide_false, cond_false]
  · rw [List.drop_zero]; unfold firstAt
    cases scanL (fun v => v != 0) l 0 with
    | none => rfl
    | some z => rfl
theorem lx8o2 (N0 N1 : Nat) (x : Car × Unit) (w109 : Nat) (w110 : List Int) (v114 v115 v116 v117 v118 v119 v121 v122 : Int × Unit) (l : List Int) (hl : (((w110.append [40]).append [v114.1, v115.1, v116.1, v117.1]).append [v118.1, v119.1, v121.1, v122.1]) = l) (hw : w109 + 9 = l.length) (hs : l.length < 100) (hN : 100 ≤ N1) : law8o1o2 N0 N1 x w109 w110 v114 v115 v116 v117 v118 v119 v121 v122 (fun w140 w141 => some (w140, w141, ())) (some (0, 0, ())) N1 0 = some ((firstAt l).1, (firstAt l).2, ()) := by
  have hw2 : ((w109 + 1 + 4 + 4 : Nat) : Int) = (l.length : Int) := by omega
  refine (scan_law l (fun v => v != 0) (fun i v => some (v, i, ())) (some (0, 0, ())) (fun n j => law8o1o2 N0 N1 x w109 w110 v114 v115 v116 v117 v118 v119 v121 v122 (fun w140 w141 => some (w140, w141, ())) (some (0, 0, ())) n j) (by omega) (fun n j v hv => ?_) (fun n j hj => ?_) N1 0 (Nat.zero_le _) (by omega)).trans ?_
  · conv => lhs; unfold law8o1o2
    rw [hl, hw2]
    simp only [idx0, idxB hv, Bool.and_self, cond_true, Int.toNat_natCast, hv, Option.bind_some]
  · conv => lhs; unfold law8o1o2
    rw [hw2]
    simp only [hj, decide_false, cond_false]
  · rw [List.drop_zero]; unfold firstAt
    cases scanL (fun v => v != 0) l 0 with
    | none => rfl
    | some z => rfl
theorem lx8o0 (N0 N1 : Nat) (hN0 : 100 ≤ N0) (c : Car) (k0 : Nat → List Int → Option (Int × Int × Unit)) (a : Int) : law8o0 N0 N1 (c, ()) k0 N0 1 0 [a] = k0 5 [a, wheelR ((c.snd.snd.fst).fst), wheelR ((c.snd.snd.fst).snd.fst), wheelR ((c.snd.snd.fst).snd.snd.fst), wheelR ((c.snd.snd.fst).snd.snd.snd.fst)] := by
  obtain ⟨b0, e0, f0⟩ := ex18 ((c.snd.snd.fst).fst)
  obtain ⟨b1, e1, f1⟩ := ex18 ((c.snd.snd.fst).snd.fst)
  obtain ⟨b2, e2, f2⟩ := ex18 ((c.snd.snd.fst).snd.snd.fst)
  obtain ⟨b3, e3, f3⟩ := ex18 ((c.snd.snd.fst).snd.snd.snd.fst)
  have g0 := ex16 b0
  have g1 := ex16 b1
  have g2 := ex16 b2
  have g3 := ex16 b3
  rw [f0] at g0
  rw [f1] at g1
  rw [f2] at g2
  rw [f3] at g3
  generalize wheelR _ = w0 at g0 ⊢
  generalize wheelR _ = w1 at g1 ⊢
  generalize wheelR _ = w2 at g2 ⊢
  generalize wheelR _ = w3 at g3 ⊢
  obtain ⟨M, rfl⟩ : ∃ M, N0 = M + 5 := ⟨N0 - 5, by omega⟩
  have hM : ∃ Q, Q = M + 5 := ⟨_, rfl⟩
  have one : ∀ (Q n : Nat) (l : List Int), n = l.length → n < 50 → ∀ (X Y : Option (Int × Int × Unit)), X = Y → (bif decide (n = l.length) && (decide ((n + 1) * Try.prog.types[39].bytes ≤ 140737488355328) && decide (n + 1 ≤ 9223372036854775807)) then X else none) = Y := by
    intro Q n l h1 h2 X Y h3
    rw [bytes8b, room n 1 (by omega), h1, decide_eq_true rfl, h3]; rfl
  unfold law8o0
  refine (bindSome e0).trans ((bindSome g0).trans (one 0 1 [a] rfl (by omega) _ _ ?_))
  unfold law8o0
  refine (bindSome e1).trans ((bindSome g1).trans (one 0 2 [a, w0] rfl (by omega) _ _ ?_))
  unfold law8o0
  refine (bindSome e2).trans ((bindSome g2).trans (one 0 3 [a, w0, w1] rfl (by omega) _ _ ?_))
  unfold law8o0
  refine (bindSome e3).trans ((bindSome g3).trans (one 0 4 [a, w0, w1, w2] rfl (by omega) _ _ ?_))
  unfold law8o0
  rfl
theorem lx8 (M0 M1 : Nat) (hM0 : 100 ≤ M0) (hM1 : 100 ≤ M1) (c : Car) (h : FewC c) : law8 M0 M1 (c, ()) = some ((rightR c).1, (rightR c).2, ()) := by
  have l4 : (List.length (c.snd.snd.snd.snd.fst) : Int) < 2 ^ 62 := by have := h.damper; omega
  have l6 : (List.length (c.snd.snd.snd.snd.snd.snd.fst) : Int) < 2 ^ 62 := by have := h.torque; omega
  have l7 : (List.length (c.snd.snd.snd.snd.snd.snd.snd.fst) : Int) < 2 ^ 62 := by have := h.air; omega
  obtain ⟨b0, e0, f0⟩ := ex17 c
  obtain ⟨b1, e1, f1⟩ := ex25 c h
  have g0 := ex16 b0
  have g1 := ex16 b1
  rw [f0] at g0
  rw [f1] at g1
  have hroom : ∀ (n m k : Nat), m = n → n + k ≤ 100 → (decide (n = m) && (decide ((n + k) * Try.prog.types[39].bytes ≤ 140737488355328) && decide (n + k ≤ 9223372036854775807))) = true := fun n m k h1 h2 => by
    subst h1; rw [bytes8b, room m k h2]; simp
  have hlen : (decide (List.length (c.snd.snd.snd.snd.fst) = List.length (c.snd.snd.snd.snd.fst)) && (decide (List.length (c.snd.snd.snd.snd.snd.snd.fst) = List.length (c.snd.snd.snd.snd.snd.snd.fst)) && decide (List.length (c.snd.snd.snd.snd.snd.snd.snd.fst) = List.length (c.snd.snd.snd.snd.snd.snd.snd.fst)))) = true := by simp
  have hlen1 : ∀ l : List Dot, decide (l.length = l.length) = true := fun l => by simp
  have hv1 := ex21 (c.snd.snd.snd.snd.fst) (-140737488355328) 140737488355328 true l4
  have hv2 := ex21 (c.snd.snd.snd.snd.snd.snd.fst) (-17592186044416) 17592186044416 false l6
  have hv3 := ex21 (c.snd.snd.snd.snd.snd.snd.snd.fst) 0 140737488355328 false l7
  have q1 : valR (fun d => bif true then alikeD d else true) (c.snd.snd.snd.snd.fst) (-140737488355328) 140737488355328 = valR alikeD (c.snd.snd.snd.snd.fst) (-140737488355328) 140737488355328 := rfl
  have q2 : valR (fun d => bif false then alikeD d else true) (c.snd.snd.snd.snd.snd.snd.fst) (-17592186044416) 17592186044416 = valR (fun _ => true) (c.snd.snd.snd.snd.snd.snd.fst) (-17592186044416) 17592186044416 := rfl
  have q3 : valR (fun d => bif false then alikeD d else true) (c.snd.snd.snd.snd.snd.snd.snd.fst) 0 140737488355328 = valR (fun _ => true) (c.snd.snd.snd.snd.snd.snd.snd.fst) 0 140737488355328 := rfl
  rw [q1] at hv1
  rw [q2] at hv2
  rw [q3] at hv3
  have hb : barsR c = bif inB ((c.snd.snd.snd.fst).fst, 0, 562949953421312, ()) then (bif inB ((c.snd.snd.snd.fst).snd.fst, 0, 562949953421312, ()) then 0 else 40) else 40 := by
    unfold barsR
    rw [rangedR_in]
    simp only [List.all_cons, List.all_nil, Bool.and_true]
    rw [bif_and]
  unfold law8
  refine (bindSome e0).trans ((bindSome g0).trans ((lx8o0 M0 M1 hM0 c _ _).trans ?_))
  rw [wr131072, wrn32768, wr32768, wrn4096, wr4096]
  refine (bindSome (ex19 ((c.snd.snd.snd.fst).fst, 0, 562949953421312, ()))).trans ?_
  show (bif inB ((c.snd.snd.snd.fst).fst, 0, 562949953421312, ()) then Option.bind (fn19 ((c.snd.snd.snd.fst).snd.fst, 0, 562949953421312, ())) _ else _) = _
  cases hb0 : inB ((c.snd.snd.snd.fst).fst, 0, 562949953421312, ())
  case true =>
    refine (bindSome (ex19 ((c.snd.snd.snd.fst).snd.fst, 0, 562949953421312, ()))).trans ?_
    refine (bindSome (ex16 _)).trans ?_
    rw [hb0] at hb
    have hb : barsR c = bif inB ((c.snd.snd.snd.fst).snd.fst, 0, 562949953421312, ()) then 0 else 40 := hb
    have hb := hb.symm
    refine bif_eq (hroom 5 _ 1 rfl (by omega)) (bif_eq (hlen1 _) ?_)
    refine (bindSome hv1).trans ((bindSome (ex22 (c.snd.snd.snd.snd.snd.fst) h.pane)).trans (bif_eq (hlen1 _) ((bindSome hv2).trans (bif_eq (hlen1 _) ((bindSome hv3).trans ?_)))))
    refine bif_eq (hroom 6 _ 4 rfl (by omega)) (bif_eq hlen ?_)
    refine (bindSome (ex23 c)).trans (bif_eq hlen ((bindSome (ex24 c h)).trans (bif_eq hlen ((bindSome e1).trans ((bindSome g1).trans (bif_eq hlen ((bindSome (ex26 c)).trans (bif_eq (hroom 10 _ 4 rfl (by omega)) ?_))))))))
    refine (lx8o1 M0 M1 (c, ()) 5 _ _ _ _ _ _ _ _ _ _ (allR c) ?_ (by simp [allR]) (by simp [allR]) hM1).trans rfl
    unfold allR
    rw [← hb]
    rfl
  case false =>
    rw [hb0] at hb
    have hb : barsR c = 40 := hb
    refine bifF (bif_eq (hroom 5 _ 1 rfl (by omega)) (bif_eq (hlen1 _) ?_))
    refine (bindSome hv1).trans ((bindSome (ex22 (c.snd.snd.snd.snd.snd.fst) h.pane)).trans (bif_eq (hlen1 _) ((bindSome hv2).trans (bif_eq (hlen1 _) ((bindSome hv3).trans ?_)))))
    refine bif_eq (hroom 6 _ 4 rfl (by omega)) (bif_eq hlen ?_)
    refine (bindSome (ex23 c)).trans (bif_eq hlen ((bindSome (ex24 c h)).trans (bif_eq hlen ((bindSome e1).trans ((bindSome g1).trans (bif_eq hlen ((bindSome (ex26 c)).trans (bif_eq (hroom 10 _ 4 rfl (by omega)) ?_))))))))
    refine (lx8o2 M0 M1 (c, ()) 5 _ _ _ _ _ _ _ _ _ (allR c) ?_ (by simp [allR]) (by simp [allR]) hM1).trans rfl
    unfold allR
    rw [hb]
    rfl
theorem ex8 (c : Car) (h : FewC c) : fn8 (c, ()) = some ((rightR c).1, (rightR c).2, ()) := lx8 _ _ (by decide) (by decide) c h
theorem true3 (c : Car) (hs : 0 ≤ (c.snd.snd.snd.snd.snd.snd.snd.snd.snd.snd.snd.snd.snd.snd.snd.snd.snd.snd.snd.snd.snd.snd.snd.fst : Int) ∧ (c.snd.snd.snd.snd.snd.snd.snd.snd.snd.snd.snd.snd.snd.snd.snd.snd.snd.snd.snd.snd.snd.snd.snd.fst : Int) < 4294967296) (hr : 0 ≤ (c.snd.snd.snd.snd.snd.snd.snd.snd.snd.snd.snd.snd.snd.snd.snd.snd.snd.snd.snd.snd.snd.snd.snd.snd.fst : Int) ∧ (c.snd.snd.snd.snd.snd.snd.snd.snd.snd.snd.snd.snd.snd.snd.snd.snd.snd.snd.snd.snd.snd.snd.snd.snd.fst : Int) < 4294967296) : fn3 (c, ()) = some (true, ()) := by
  unfold fn3 law3
  obtain ⟨b, hb, hf⟩ := ex6 c hs hr
  refine (bindSome hb).trans ?_
  cases b
  case false => rfl
  have hf := hf rfl
  refine (bindSome (ex7 c hf)).trans ((bindSome (ex8 c hf)).trans ?_)
  show (bif (rightR c).1 == (rightR c).1 then (bif (rightR c).2 == (rightR c).2 then some (true, ()) else some (false, ())) else some (false, ())) = _
  rw [beq_self_eq_true, beq_self_eq_true]; rfl
end Go.Proofs.Ytamdbejojnfoiaa
