/- Plain Lean: what the laws of this program's functions come to, in numbers and lists; no program is run here. -/
import Derived.Test.YtkamnpkcjokncaaPP09h
set_option linter.unusedVariables false
set_option linter.unusedSimpArgs false
set_option maxRecDepth 100000
namespace Go.Proofs.Ytkamnpkcjokncaa
open Go Go.Ab Go.Proofs Go.IntWalk
/- Panes in plain Lean (r09): the value, by the two rows next to a number, is what all rows tell. -/
def stage (ys : List Int) (j : Nat) : List Dot := (List.range ys.length).map fun k => if k < j then (gI ys k, 0, ()) else (0, 0, ())
theorem stage_len (ys : List Int) (j : Nat) : (stage ys j).length = ys.length := by simp [stage]
theorem stage_set {ys : List Int} {j : Nat} (h : j < ys.length) : (stage ys j).set j (gI ys j, 0, ()) = stage ys (j + 1) := by
  apply List.ext_getElem?
  intro i
  rw [List.getElem?_set]
  by_cases hi : i < ys.length
  · by_cases e : j = i
    · subst e
      rw [if_pos rfl, if_pos (by rw [stage_len]; exact h)]
      simp [stage, hi]
    · rw [if_neg e]
      simp only [stage, List.getElem?_map, List.getElem?_range hi, Option.map_some]
      by_cases h1 : i < j
      · rw [if_pos h1, if_pos (by omega)]
      · rw [if_neg h1, if_neg (by omega)]
  · rw [if_neg (by omega), List.getElem?_eq_none (by rw [stage_len]; omega), List.getElem?_eq_none (by rw [stage_len]; omega)]
theorem stage_get {ys : List Int} {j : Nat} (h : j < ys.length) : (stage ys j)[j]? = some (0, 0, ()) := by simp [stage, h]
theorem stage_zero (ys : List Int) : stage ys 0 = List.replicate ys.length (0, 0, ()) := by
  apply List.ext_getElem?
  intro i
  by_cases hi : i < ys.length
  · simp [stage, hi]
  · rw [List.getElem?_eq_none (by rw [stage_len]; omega), List.getElem?_eq_none (by simp; omega)]
theorem stage_end (ys : List Int) : stage ys ys.length = xsD ys := by
  apply List.ext_getElem?
  intro i
  by_cases hi : i < ys.length
  · simp [stage, hi, xsD, gI]
  · rw [List.getElem?_eq_none (by rw [stage_len]; omega), List.getElem?_eq_none (by simp [xsD]; omega)]
theorem lx30o0 {β : Type} (N : Nat) (p : Pan) (y : Int) (k : List Dot → Option β) (hl : p.2.1.length ≤ 40) : ∀ (n j : Nat), j ≤ p.2.1.length → p.2.1.length - j < n → law30o0 N (p, y, ()) k n (j : Int) (stage p.2.1 j) = k (xsD p.2.1)
  | 0, j, _, h => by omega
  | n + 1, j, hj, h => by
    conv => lhs; unfold law30o0
    by_cases hc : j < p.2.1.length
    · simp only [idx0, idxN hc, Bool.and_self, cond_true, Int.toNat_natCast, gI_get hc, Option.bind_some, stage_get hc]
      rw [wrapNat j (by omega), stage_set hc]
      exact lx30o0 N p y k hl n (j + 1) hc (by omega)
    · simp only [idxN' hc, cond_false]
      rw [show j = p.2.1.length by omega, stage_end]
theorem lx30 (N : Nat) (hN : 100 ≤ N) (p : Pan) (hp : FewP p) (y : Int) : law30 N (p, y, ()) = some (cellV (xsD p.2.1) y : Int) := by
  have hy := hp.ys
  unfold law30
  simp only [idx0, Int.toNat_natCast, bytes52, decide_eq_true (show p.2.1.length * 16 ≤ 140737488355328 by omega), decide_eq_true (show (p.2.1.length : Int) ≤ 4611686018427387904 by omega), Bool.and_self, cond_true]
  have := lx30o0 N p y (fun w16 => (bif decide (p.2.1.length = w16.length) then (Option.bind (fn41 (w16, (y, ()))) fun v17 => some v17.fst) else none)) hy N 0 (by omega) (by omega)
  rw [stage_zero] at this
  refine this.trans ?_
  rw [decide_eq_true (show p.2.1.length = (xsD p.2.1).length by simp [xsD])]
  simp only [cond_true]
  rw [ex41 _ (by show ((xsD p.2.1).length : Int) < _; simp [xsD]; omega)]
  rfl
theorem around30 (p : Pan) (hp : FewP p) (y : Int) : fn30 (p, y, ()) = some (cellV (xsD p.2.1) y : Int) := lx30 _ (by decide) p hp y
theorem paneR_off {p : Pan} (h : (paneR p != 0) = true) (o : Bool) : True := trivial
theorem few_row {p : Pan} (hp : FewP p) (r : List Int) : ((rowD p.1 r).length : Int) < 2 ^ 61 := by
  have := hp.xs
  rw [rowD_length]; omega
theorem val_ok {p : Pan} (h : RightP p) (x : Int) {r : List Int} (hr : r ∈ p.2.2.1) : I64 (evV (rowD p.1 r) x) := by
  have := (h.rowT hr).bounds x fun k hk => (h.rowT hr).rangeY k hk
  exact ⟨by omega, by omega⟩
theorem tab_ok {p : Pan} (h : RightP p) (x : Int) : ∀ d ∈ tabP p x, OkD d := by
  intro d hd
  obtain ⟨i, hi⟩ := List.mem_iff_getElem?.1 hd
  have hl := (List.getElem?_eq_some_iff.1 hi).1
  have e := nth_of hi
  have h1 := (h.tab x).rangeX i hl
  have h2 := (h.tab x).rangeY i hl
  unfold tX at h1; unfold tY at h2
  rw [e] at h1 h2
  exact ⟨⟨by omega, by omega⟩, ⟨by omega, by omega⟩⟩
theorem eval16 (o : Bool) (p : Pan) (hp : FewP p) (ho : OkP p) (h : (paneR p != 0) = false) (x y : Int) (hx : I64 x) (hy : I64 y) : fn16 (o, ()) (p, x, y, ()) = some (res (o, paneV p x y)) := by
  have hR := rightP_of h
  have hys := hp.ys
  obtain ⟨c1, _, _⟩ := (hR.tab x).cell y
  have hlen : (tabP p x).length = p.2.1.length := by simp [tabP, hR.rows]
  have hrows := hR.rows
  unfold fn16 law16
  simp only [ex10 p hp, Option.bind_some, h, cond_false, around30 p hp y, hR.cell x y]
  generalize hc : cellV (tabP p x) y = c at *
  rw [hlen] at c1
  have hc0 : c < p.2.1.length := by omega
  have hr0 : c < p.2.2.1.length := by omega
  have hr1 : c + 1 < p.2.2.1.length := by omega
  have m0 : gR p.2.2.1 c ∈ p.2.2.1 := gR_mem hr0
  have m1 : gR p.2.2.1 (c + 1) ∈ p.2.2.1 := gR_mem hr1
  have okr : ∀ r ∈ p.2.2.1, ∀ d ∈ rowD p.1 r, OkD d := fun r hr => rowD_ok ho.1 fun a ha => ho.3 r hr a ha
  simp only [idx0, idxN hc0, Bool.and_self, cond_true, Int.toNat_natCast, gI_get hc0, Option.bind_some, row13 p hp c hr0, wrapNat c (by omega), idxN c1, gI_get c1, row13 p hp (c + 1) hr1]
  rw [eval10 (o, ()) (rowD p.1 (gR p.2.2.1 c), x, ()) (few_row hp _) (okr _ m0) hx]
  simp only [(hR.rowT m0).is, Option.bind_some, res_1, res_2]
  rw [eval10 (o, ()) (rowD p.1 (gR p.2.2.1 (c + 1)), x, ()) (few_row hp _) (okr _ m1) hx]
  simp only [(hR.rowT m1).is, Option.bind_some, res_1, res_2]
  have e2 : ([(gI p.2.1 c, evV (rowD p.1 (gR p.2.2.1 c)) x, ())] ++ [(gI p.2.1 (c + 1), evV (rowD p.1 (gR p.2.2.1 (c + 1))) x, ())] : List Dot) = [nth (tabP p x) c, nth (tabP p x) (c + 1)] := by
    rw [tabP_nth hc0 hr0, tabP_nth c1 hr1]; rfl
  rw [e2]
  have hT := (hR.tab x).pairT (c := c) (by rw [hlen]; exact c1)
  rw [eval10 (o, ()) ([nth (tabP p x) c, nth (tabP p x) (c + 1)], y, ()) (by show ((2 : Nat) : Int) < _; decide) (fun d hd => tab_ok hR x d (by
    rcases List.mem_cons.1 hd with rfl | hd
    · exact nth_mem (by rw [hlen]; exact hc0)
    · rw [List.mem_singleton.1 hd]; exact nth_mem (by rw [hlen]; exact c1))) hy]
  simp only [hT.is, Option.bind_some, res_1, res_2]
  have := hR.pick x y
  rw [hc] at this
  rw [this]; rfl
theorem off16 (o : Bool) (p : Pan) (hp : FewP p) (h : (paneR p != 0) = true) (x y : Int) : fn16 (o, ()) (p, x, y, ()) = some (res (o, 0)) := by
  unfold fn16 law16
  simp only [ex10 p hp, Option.bind_some, h, cond_true]; rfl
theorem lx17 (N : Nat) (hN : 100 ≤ N) (o : Bool) (p : Pan) (hp : FewP p) (ho : OkP p) (h : (paneR p != 0) = false) (x y : Int) (hx : I64 x) (hy : I64 y) : law17 N (o, ()) (p, x, y, ()) = some (res (o, paneV p x y)) := by
  have hR := rightP_of h
  have hys := hp.ys
  have hrows := hR.rows
  have hlen : (tabP p x).length = p.2.1.length := by simp [tabP, hR.rows]
  have h2 := hR.y2
  have okr : ∀ r ∈ p.2.2.1, ∀ d ∈ rowD p.1 r, OkD d := fun r hr => rowD_ok ho.1 fun a ha => ho.3 r hr a ha
  have row : ∀ j, j < p.2.1.length → fn14 (p, (j : Int), ()) = some (rowD p.1 (gR p.2.2.1 j)) ∧ ∀ o', fn32 (o', ()) (rowD p.1 (gR p.2.2.1 j), x, ()) = some (res (o', evV (rowD p.1 (gR p.2.2.1 j)) x)) := fun j hj => by
    have hr : gR p.2.2.1 j ∈ p.2.2.1 := gR_mem (by omega)
    refine ⟨row14 p hp j (by omega), fun o' => ?_⟩
    rw [eval11 (o', ()) (rowD p.1 (gR p.2.2.1 j), x, ()) (few_row hp _) (okr _ hr) hx, (hR.rowT hr).is]
  have z0 : Int.toNat 0 = 0 := rfl
  unfold law17
  simp only [ex11 p hp, Option.bind_some, h, cond_false, decide_eq_true (show (0 : Int) < (p.2.1.length : Int) by omega), decide_eq_true (show (0 : Int) ≤ 0 by omega), Bool.and_self, cond_true, z0, gI_get (show 0 < p.2.1.length by omega)]
  have r0 := row 0 (by omega)
  have r00 : fn14 (p, 0, ()) = _ := r0.1
  simp only [r00, Option.bind_some, r0.2, res_1, res_2]
  have := push_law p.2.1.length 16 (fun k => (gI p.2.1 k, evV (rowD p.1 (gR p.2.2.1 k)) x, ())) (fun w29 w31 => (bif decide (w29 = w31.length) then (Option.bind (fn32 (o, ()) (w31, y, ())) fun v32 => some (((v32.fst.fst, ()), v32.snd.fst, ()))) else none)) (fun n m j a => law17o0 N (p, x, y, ()) (fun w29 w30 w31 => (bif decide (w29 = w31.length) then (Option.bind (fn32 (w30, ()) (w31, y, ())) fun v32 => some (((v32.fst.fst, ()), v32.snd.fst, ()))) else none)) n m j o a) (by omega) (by omega) (fun n m j a hj => ?_) (fun n m j a hj => ?_) N 1 (by omega) (by omega)
  · refine this.trans ?_
    rw [← tabP_range p x hR.rows, decide_eq_true hlen.symm]
    simp only [cond_true]
    rw [eval11 (o, ()) (tabP p x, y, ()) (by show ((tabP p x).length : Int) < _; omega) (tab_ok hR x) hy, (hR.tab x).is]
    rfl
  · have rj := row j hj
    conv => lhs; unfold law17o0
    simp only [idx0, idxN hj, Bool.and_self, cond_true, Int.toNat_natCast, gI_get hj, Option.bind_some, rj.1, rj.2, res_1, res_2, bytes52]
  · subst hj
    conv => lhs; unfold law17o0
    simp only [idxN' (Nat.lt_irrefl _), cond_false]
theorem eval17 (o : Bool) (p : Pan) (hp : FewP p) (ho : OkP p) (h : (paneR p != 0) = false) (x y : Int) (hx : I64 x) (hy : I64 y) : fn17 (o, ()) (p, x, y, ()) = some (res (o, paneV p x y)) := lx17 _ (by decide) o p hp ho h x y hx hy
theorem off17 (o : Bool) (p : Pan) (hp : FewP p) (h : (paneR p != 0) = true) (x y : Int) : fn17 (o, ()) (p, x, y, ()) = some (res (o, 0)) := by
  unfold fn17 law17
  simp only [ex11 p hp, Option.bind_some, h, cond_true]; rfl
theorem lx9 (N0 N1 : Nat) (h0 : 100 ≤ N0) (h1 : 100 ≤ N1) (p : Pan) (hp : FewP p) : law9 N0 N1 (p, ()) = some ((boundsP p).1, (boundsP p).2, ()) := by
  unfold law9 boundsP
  simp only [ex11 p hp, Option.bind_some]
  cases h : paneR p != 0
  case true => rfl
  have hR := rightP_of h
  have hrows := hp.rows
  have n0 : 0 < p.2.2.1.length := by have := hR.rows; have := hR.y2; omega
  have m0 : gR p.2.2.1 0 ∈ p.2.2.1 := gR_mem n0
  have l0 : 0 < (gR p.2.2.1 0).length := by rw [hR.row _ m0]; have := hR.x2; omega
  have z0 : Int.toNat 0 = 0 := rfl
  simp only [cond_false, decide_eq_true (show (0 : Int) ≤ 0 by omega), decide_eq_true (show (0 : Int) < (p.2.2.1.length : Int) by omega), Bool.and_self, cond_true, z0, gR_get n0, Option.bind_some, decide_eq_true (show (0 : Int) < ((gR p.2.2.1 0).length : Int) by omega), gI_get l0]
  have hin : ∀ (i : Nat) (k : Int → Int → Option (Int × Int × Unit)) (s : Int × Int), i < p.2.2.1.length → law9o1 N0 N1 (p, ()) (i : Int) k N1 s.1 s.2 0 = k ((gR p.2.2.1 i).foldl mmF s).1 ((gR p.2.2.1 i).foldl mmF s).2 := fun i k s hi => by
    have hr := hp.row _ (gR_mem hi)
    have := runL_law (gR p.2.2.1 i) (fun _ v s K => K (mmF s v)) (fun s => k s.1 s.2) (fun n j s => law9o1 N0 N1 (p, ()) (i : Int) k n s.1 s.2 j) (by omega) (fun n j v s hv => ?_) (fun n j s hj => ?_) N1 0 s (by omega) (by omega)
    · rw [List.drop_zero, runL_fold] at this
      exact this
    · conv => lhs; unfold law9o1
      simp only [idx0, idxN hi, Bool.and_self, cond_true, Int.toNat_natCast, gR_get hi, Option.bind_some, idxB hv, hv]
      rfl
    · conv => lhs; unfold law9o1
      simp only [idx0, idxN hi, Bool.and_self, cond_true, Int.toNat_natCast, gR_get hi, Option.bind_some, hj, decide_false, cond_false]
  have := runL_law p.2.2.1 (fun _ r s K => K (r.foldl mmF s)) (fun s => some ((s.1, s.2, ()))) (fun n j s => law9o0o1 N0 N1 (p, ()) (fun w71 w72 => some ((w71, w72, ()))) n s.1 s.2 j) (by omega) (fun n j v s hv => ?_) (fun n j s hj => ?_) N0 0 (gI (gR p.2.2.1 0) 0, gI (gR p.2.2.1 0) 0) (by omega) (by omega)
  · rw [List.drop_zero, runL_fold] at this
    refine this.trans ?_
    obtain ⟨x, xs, y, ys, v, vs, _, _, hv⟩ := pane_heads h
    rw [← List.foldl_flatten]
    have hd : gI (gR p.2.2.1 0) 0 = v := by
      have hq : p.2.2.1 = gR p.2.2.1 0 :: p.2.2.1.drop 1 := by
        have := gR_get n0
        cases hp' : p.2.2.1 with
        | nil => rw [hp'] at n0; simp at n0
        | cons r rs => rfl
      rw [hq, List.flatten_cons] at hv
      cases hg : gR p.2.2.1 0 with
      | nil => rw [hg] at l0; simp at l0
      | cons a ts =>
        rw [hg] at hv
        simp only [List.cons_append, List.cons.injEq] at hv
        rw [← hv.1]; rfl
    rw [hd, mm_all hv]
  · have hj : j < p.2.2.1.length := (List.getElem?_eq_some_iff.1 hv).1
    have hg : v = gR p.2.2.1 j := by rw [gR_get hj] at hv; injection hv with hv; exact hv.symm
    conv => lhs; unfold law9o0o1
    simp only [idxN hj, cond_true]
    rw [hin j _ s hj, hg]
  · conv => lhs; unfold law9o0o1
    simp only [hj, decide_false, cond_false]
theorem ex9 (p : Pan) (hp : FewP p) : fn9 (p, ()) = some ((boundsP p).1, (boundsP p).2, ()) := lx9 _ _ (by decide) (by decide) p hp
theorem dots12 (l : List Dot) (hl : (l.length : Int) < 2 ^ 62) : fn12 (l, l, ()) = some (true, ()) := by
  unfold fn12 law12
  simp only [bne_self_eq_false, cond_false]
  refine (any_law l (fun _ => false) (some (false, ())) (some (true, ())) (fun n j => law12o0 (10 ^ 30) (l, l, ()) (some (false, ())) (some (true, ())) n j) hl (fun n j v hv => ?_) (fun n j hj => ?_) (10 ^ 30) (big30 _ hl)).trans ?_
  · conv => lhs; unfold law12o0
    simp only [idx0, idxB hv, Bool.and_self, cond_true, Int.toNat_natCast, hv, Option.bind_some, beq_self_eq_true, Bool.and_true, Bool.not_true, cond_false]
  · conv => lhs; unfold law12o0
    simp only [hj, decide_false, cond_false]
  · have : (l.any fun _ => false) = false := by simp
    rw [this]; rfl
theorem few7 (p : Pan) : ∃ b, fn7 (p, ()) = some (b, ()) ∧ (b = true → FewP p) := lx7 _ (by decide) p
theorem true3 (p : Pan) (i : Int) : fn3 (p, i, ()) = some (true, ()) := by
  unfold fn3 law3
  obtain ⟨b, hb, hf⟩ := few7 p
  simp only [hb, Option.bind_some]
  cases b
  case false => rfl
  have hp := hf rfl
  have hl : ((rowP p i).length : Int) < 2 ^ 62 := by
    unfold rowP
    split
    · have := few_row hp (gR p.2.2.1 i.toNat); omega
    · simp
  simp only [Bool.not_true, cond_false, ex8 p hp, ex9 p hp, ex10 p hp, ex11 p hp, Option.bind_some, beq_self_eq_true, cond_true, rows13 p hp i, rows14 p hp i, dots12 _ hl]
theorem true4 (p : Pan) (x y : Int) (ho : OkP p) (hx : I64 x) (hy : I64 y) : fn4 (p, x, y, ()) = some (true, ()) := by
  unfold fn4 law4
  obtain ⟨b, hb, hf⟩ := few7 p
  simp only [hb, Option.bind_some]
  cases b
  case false => rfl
  have hp := hf rfl
  cases h : paneR p != 0
  · simp only [Bool.not_true, cond_false, eval16 false p hp ho h x y hx hy, eval17 false p hp ho h x y hx hy, Option.bind_some, beq_self_eq_true, cond_true]
  · simp only [Bool.not_true, cond_false, off16 false p hp h x y, off17 false p hp h x y, Option.bind_some, beq_self_eq_true, cond_true]
theorem true5 (p : Pan) (x y : Int) (ho : OkP p) (hx : I64 x) (hy : I64 y) : fn5 (p, x, y, ()) = some (true, ()) := by
  unfold fn5 law5
  obtain ⟨b, hb, hf⟩ := few7 p
  simp only [hb, Option.bind_some]
  cases b
  case false => rfl
  have hp := hf rfl
  simp only [Bool.not_true, cond_false, ex10 p hp, Option.bind_some]
  cases h : paneR p != 0
  case true => rfl
  have hR := rightP_of h
  obtain ⟨x0, xs, y0, ys, v, vs, _, _, hv⟩ := pane_heads h
  have hbt := hR.between x y (a := (boundsP p).1) (b := (boundsP p).2) fun r hr a ha => by
    have hm : a ∈ p.2.2.1.flatten := List.mem_flatten.2 ⟨r, hr, ha⟩
    have e : boundsP p = (minL p.2.2.1.flatten, maxL p.2.2.1.flatten) := by unfold boundsP; rw [h]; rfl
    rw [e]
    rw [hv] at hm ⊢
    exact ⟨minL_le a hm, le_maxL a hm⟩
  simp only [cond_false, eval16 false p hp ho h x y hx hy, ex8 p hp, Option.bind_some, res_1, res_2, Bool.not_false, cond_true]
  have g1 : paneV p x y ≥ (boundsP p).fst := hbt.1
  have g2 : paneV p x y ≤ (boundsP p).snd := hbt.2
  simp only [g1, g2, decide_true, cond_true]
theorem lx6 (N0 N1 : Nat) (h0 : 100 ≤ N0) (h1 : 100 ≤ N1) (p : Pan) (ho : OkP p) : law6 N0 N1 (p, ()) = some (true, ()) := by
  unfold law6
  obtain ⟨b, hb, hf⟩ := few7 p
  simp only [hb, Option.bind_some]
  cases b
  case false => rfl
  have hp := hf rfl
  simp only [Bool.not_true, cond_false, ex10 p hp, Option.bind_some]
  cases h : paneR p != 0
  case true => rfl
  have hR := rightP_of h
  have hrows := hR.rows
  have hys := hp.ys
  have hxs := hp.xs
  simp only [cond_false]
  have hin : ∀ (i : Nat) (k : Bool → Option (Bool × Unit)) (s : Bool), i < p.2.1.length → law6o1 N0 N1 (p, ()) (i : Int) (some (false, ())) k N1 0 s = k s := fun i k s hi => by
    have hi2 : i < p.2.2.1.length := by omega
    have hl := hR.row _ (gR_mem hi2)
    have := runL_law p.1 (fun _ _ s K => K s) k (fun n j s => law6o1 N0 N1 (p, ()) (i : Int) (some (false, ())) k n j s) (by omega) (fun n j v s hv => ?_) (fun n j s hj => ?_) N1 0 s (by omega) (by omega)
    · rw [List.drop_zero, runL_same] at this
      exact this
    · have hj : j < p.1.length := (List.getElem?_eq_some_iff.1 hv).1
      have hg : v = gI p.1 j := by rw [gI_get hj] at hv; injection hv with hv; exact hv.symm
      have hjr : j < (gR p.2.2.1 i).length := by omega
      conv => lhs; unfold law6o1
      simp only [idxB hv, idx0, idxN hi2, Bool.and_self, cond_true, Int.toNat_natCast, gR_get hi2, Option.bind_some, idxN hjr, hv, idxN hi, gI_get hi]
      rw [eval16 s p hp ho h v (gI p.2.1 i) (ho.1 _ (List.mem_of_getElem? hv)) (ho.2 _ (gI_mem hi))]
      simp only [Option.bind_some, res_1, res_2, gI_get hjr, hg, hR.points hi hj, bne_self_eq_false, cond_false]
    · conv => lhs; unfold law6o1
      simp only [hj, decide_false, cond_false]
  have := runL_law p.2.1 (fun _ _ s K => K s) (fun _ => some (true, ())) (fun n j s => law6o0o1 N0 N1 (p, ()) (some (false, ())) (some (true, ())) n j s) (by omega) (fun n j v s hv => ?_) (fun n j s hj => ?_) N0 0 false (by omega) (by omega)
  · rw [List.drop_zero, runL_same] at this
    exact this
  · have hj : j < p.2.1.length := (List.getElem?_eq_some_iff.1 hv).1
    conv => lhs; unfold law6o0o1
    simp only [idxN hj, idxN (show j < p.2.2.1.length by omega), cond_true]
    rw [hin j _ s hj]
  · conv => lhs; unfold law6o0o1
    simp only [hj, decide_false, cond_false]
theorem true6 (p : Pan) (ho : OkP p) : fn6 (p, ()) = some (true, ()) := lx6 _ _ (by decide) (by decide) p ho
theorem true3o (y : Sh.Ts [PaneSh, .int .i64]) (hy : Sh.oks [PaneSh, .int .i64] y) : fn3 y = some (true, ()) := true3 y.1 y.2.1
theorem true4o (y : Sh.Ts [PaneSh, .int .i64, .int .i64]) (hy : Sh.oks [PaneSh, .int .i64, .int .i64] y) : fn4 y = some (true, ()) := true4 y.1 y.2.1 y.2.2.1 (okP hy.1) (okI hy.2.1) (okI hy.2.2.1)
theorem true5o (y : Sh.Ts [PaneSh, .int .i64, .int .i64]) (hy : Sh.oks [PaneSh, .int .i64, .int .i64] y) : fn5 y = some (true, ()) := true5 y.1 y.2.1 y.2.2.1 (okP hy.1) (okI hy.2.1) (okI hy.2.2.1)
theorem true6o (y : Sh.Ts [PaneSh]) (hy : Sh.oks [PaneSh] y) : fn6 y = some (true, ()) := true6 y.1 (okP hy.1)

end Go.Proofs.Ytkamnpkcjokncaa
