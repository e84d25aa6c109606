/- Plain Lean: what the laws of this program's functions come to, in numbers and lists; no program is run here. -/
import Derived.Test.YtkobnmpilcpojaaGreatPP7h
set_option linter.unusedVariables false
set_option linter.unusedSimpArgs false
set_option maxRecDepth 100000
namespace Go.Proofs.YtkobnmpilcpojaaGreat
open Go Go.Ab Go.Proofs Go.IntWalk
def stage (ys : List Int) (j : Nat) : List Dot := (List.range ys.length).map fun k => if k < j then (gI ys k, 0, ()) else (0, 0, ())
theorem stage_len (ys : List Int) (j : Nat) : (stage ys j).length = ys.length := by simp [stage]
theorem stage_set {ys : List Int} {j : Nat} (h : j < ys.length) : (stage ys j).set j (gI ys j, 0, ()) = stage ys (j + 1) := by
  apply List.ext_getElem?
  intro i
  rw [List.getElem?_set]
  by_cases hi : i < ys.length
  · by_cases e : j = i
    · subst e
      rw [if_pos rfl, if_pos (by rw [stage_len]; exact h)]
      simp [stage, hi]
    · rw [if_neg e]
      simp only [stage, List.getElem?_map, List.getElem?_range hi, Option.map_some]
      by_cases h1 : i < j
      · rw [if_pos h1, if_pos (by omega)]
      · rw [if_neg h1, if_neg (by omega)]
  · rw [if_neg (by omega), List.getElem?_eq_none (by rw [stage_len]; omega), List.getElem?_eq_none (by rw [stage_len]; omega)]
theorem stage_get {ys : List Int} {j : Nat} (h : j < ys.length) : (stage ys j)[j]? = some (0, 0, ()) := by simp [stage, h]
theorem stage_zero (ys : List Int) : stage ys 0 = List.replicate ys.length (0, 0, ()) := by
  apply List.ext_getElem?
  intro i
  by_cases hi : i < ys.length
  · simp [stage, hi]
  · rw [List.getElem?_eq_none (by rw [stage_len]; omega), List.getElem?_eq_none (by simp; omega)]
theorem stage_end (ys : List Int) : stage ys ys.length = xsD ys := by
  apply List.ext_getElem?
  intro i
  by_cases hi : i < ys.length
  · simp [stage, hi, xsD, gI]
  · rw [List.getElem?_eq_none (by rw [stage_len]; omega), List.getElem?_eq_none (by simp [xsD]; omega)]
theorem lx152o0 {β : Type} (N : Nat) (p : Pan) (y : Int) (k : List Dot → Option β) (hl : p.2.1.length ≤ 40) : ∀ (n j : Nat), j ≤ p.2.1.length → p.2.1.length - j < n → law152o0 N (p, y, ()) k n (j : Int) (stage p.2.1 j) = k (xsD p.2.1)
  | 0, j, _, h => by omega
  | n + 1, j, hj, h => by
    conv => lhs; unfold law152o0
    by_cases hc : j < p.2.1.length
    · simp only [idx0, idxN hc, Bool.and_self, cond_true, Int.toNat_natCast, gI_get hc, Option.bind_some, stage_get hc]
      rw [wrapNat j (by omega), stage_set hc]
      exact lx152o0 N p y k hl n (j + 1) hc (by omega)
    · simp only [idxN' hc, cond_false]
      rw [show j = p.2.1.length by omega, stage_end]
theorem lx152 (N : Nat) (hN : 100 ≤ N) (p : Pan) (hp : FewP p) (y : Int) : law152 N (p, y, ()) = some (cellV (xsD p.2.1) y : Int) := by
  have hy := hp.ys
  unfold law152
  simp only [idx0, Int.toNat_natCast, bytes52, decide_eq_true (show p.2.1.length * 16 ≤ 140737488355328 by omega), decide_eq_true (show (p.2.1.length : Int) ≤ 4611686018427387904 by omega), Bool.and_self, cond_true]
  have := lx152o0 N p y (fun w16 => (bif decide (p.2.1.length = w16.length) then (Option.bind (fn173 (w16, (y, ()))) fun v17 => some v17.fst) else none)) hy N 0 (by omega) (by omega)
  rw [stage_zero] at this
  refine this.trans ?_
  rw [decide_eq_true (show p.2.1.length = (xsD p.2.1).length by simp [xsD])]
  simp only [cond_true]
  rw [ex173 _ (by show ((xsD p.2.1).length : Int) < _; simp [xsD]; omega)]
  rfl
theorem around30 (p : Pan) (hp : FewP p) (y : Int) : fn152 (p, y, ()) = some (cellV (xsD p.2.1) y : Int) := lx152 _ (by decide) p hp y
theorem few_row {p : Pan} (hp : FewP p) (r : List Int) : ((rowD p.1 r).length : Int) < 2 ^ 61 := by
  have := hp.xs
  rw [rowD_length]; omega
theorem tab_ok {p : Pan} (h : RightP p) (x : Int) : ∀ d ∈ tabP p x, OkD d := by
  intro d hd
  obtain ⟨i, hi⟩ := List.mem_iff_getElem?.1 hd
  have hl := (List.getElem?_eq_some_iff.1 hi).1
  have e := nth_of hi
  have h1 := (h.tab x).rangeX i hl
  have h2 := (h.tab x).rangeY i hl
  unfold tX at h1; unfold tY at h2
  rw [e] at h1 h2
  exact ⟨⟨by omega, by omega⟩, ⟨by omega, by omega⟩⟩
theorem eval16 (o : Bool) (p : Pan) (hp : FewP p) (ho : OkP p) (h : (paneR p != 0) = false) (x y : Int) (hx : I64 x) (hy : I64 y) : fn129 (o, ()) (p, x, y, ()) = some (res (o, paneV p x y)) := by
  have hR := rightP_of h
  have hys := hp.ys
  obtain ⟨c1, _, _⟩ := (hR.tab x).cell y
  have hlen : (tabP p x).length = p.2.1.length := by simp [tabP, hR.rows]
  have hrows := hR.rows
  unfold fn129 law129
  simp only [ex138 p hp, Option.bind_some, h, cond_false, around30 p hp y, hR.cell x y]
  generalize hc : cellV (tabP p x) y = c at *
  rw [hlen] at c1
  have hc0 : c < p.2.1.length := by omega
  have hr0 : c < p.2.2.1.length := by omega
  have hr1 : c + 1 < p.2.2.1.length := by omega
  have m0 : gR p.2.2.1 c ∈ p.2.2.1 := gR_mem hr0
  have m1 : gR p.2.2.1 (c + 1) ∈ p.2.2.1 := gR_mem hr1
  have okr : ∀ r ∈ p.2.2.1, ∀ d ∈ rowD p.1 r, OkD d := fun r hr => rowD_ok ho.1 fun a ha => ho.3 r hr a ha
  simp only [idx0, idxN hc0, Bool.and_self, cond_true, Int.toNat_natCast, gI_get hc0, Option.bind_some, row13 p hp c hr0, wrapNat c (by omega), idxN c1, gI_get c1, row13 p hp (c + 1) hr1]
  rw [eval10 (o, ()) (rowD p.1 (gR p.2.2.1 c), x, ()) (few_row hp _) (okr _ m0) hx]
  simp only [(hR.rowT m0).is, Option.bind_some, res_1, res_2]
  rw [eval10 (o, ()) (rowD p.1 (gR p.2.2.1 (c + 1)), x, ()) (few_row hp _) (okr _ m1) hx]
  simp only [(hR.rowT m1).is, Option.bind_some, res_1, res_2]
  have e2 : ([(gI p.2.1 c, evV (rowD p.1 (gR p.2.2.1 c)) x, ())] ++ [(gI p.2.1 (c + 1), evV (rowD p.1 (gR p.2.2.1 (c + 1))) x, ())] : List Dot) = [nth (tabP p x) c, nth (tabP p x) (c + 1)] := by
    rw [tabP_nth hc0 hr0, tabP_nth c1 hr1]; rfl
  rw [e2]
  have hT := (hR.tab x).pairT (c := c) (by rw [hlen]; exact c1)
  rw [eval10 (o, ()) ([nth (tabP p x) c, nth (tabP p x) (c + 1)], y, ()) (by show ((2 : Nat) : Int) < _; decide) (fun d hd => tab_ok hR x d (by
    rcases List.mem_cons.1 hd with rfl | hd
    · exact nth_mem (by rw [hlen]; exact hc0)
    · rw [List.mem_singleton.1 hd]; exact nth_mem (by rw [hlen]; exact c1))) hy]
  simp only [hT.is, Option.bind_some, res_1, res_2]
  have := hR.pick x y
  rw [hc] at this
  rw [this]; rfl
theorem off16 (o : Bool) (p : Pan) (hp : FewP p) (h : (paneR p != 0) = true) (x y : Int) : fn129 (o, ()) (p, x, y, ()) = some (res (o, 0)) := by
  unfold fn129 law129
  simp only [ex138 p hp, Option.bind_some, h, cond_true]; rfl
theorem lx133 (N : Nat) (hN : 100 ≤ N) (o : Bool) (p : Pan) (hp : FewP p) (ho : OkP p) (h : (paneR p != 0) = false) (x y : Int) (hx : I64 x) (hy : I64 y) : law133 N (o, ()) (p, x, y, ()) = some (res (o, paneV p x y)) := by
  have hR := rightP_of h
  have hys := hp.ys
  have hrows := hR.rows
  have hlen : (tabP p x).length = p.2.1.length := by simp [tabP, hR.rows]
  have h2 := hR.y2
  have okr : ∀ r ∈ p.2.2.1, ∀ d ∈ rowD p.1 r, OkD d := fun r hr => rowD_ok ho.1 fun a ha => ho.3 r hr a ha
  have row : ∀ j, j < p.2.1.length → fn158 (p, (j : Int), ()) = some (rowD p.1 (gR p.2.2.1 j)) ∧ ∀ o', fn157 (o', ()) (rowD p.1 (gR p.2.2.1 j), x, ()) = some (res (o', evV (rowD p.1 (gR p.2.2.1 j)) x)) := fun j hj => by
    have hr : gR p.2.2.1 j ∈ p.2.2.1 := gR_mem (by omega)
    refine ⟨row14 p hp j (by omega), fun o' => ?_⟩
    rw [eval11 (o', ()) (rowD p.1 (gR p.2.2.1 j), x, ()) (few_row hp _) (okr _ hr) hx, (hR.rowT hr).is]
  have z0 : Int.toNat 0 = 0 := rfl
  unfold law133
  simp only [ex156 p hp, Option.bind_some, h, cond_false, decide_eq_true (show (0 : Int) < (p.2.1.length : Int) by omega), decide_eq_true (show (0 : Int) ≤ 0 by omega), Bool.and_self, cond_true, z0, gI_get (show 0 < p.2.1.length by omega)]
  have r0 := row 0 (by omega)
  have r00 : fn158 (p, 0, ()) = _ := r0.1
  simp only [r00, Option.bind_some, r0.2, res_1, res_2]
  have := push_law p.2.1.length 16 (fun k => (gI p.2.1 k, evV (rowD p.1 (gR p.2.2.1 k)) x, ())) (fun w29 w31 => (bif decide (w29 = w31.length) then (Option.bind (fn157 (o, ()) (w31, y, ())) fun v32 => some (((v32.fst.fst, ()), v32.snd.fst, ()))) else none)) (fun n m j a => law133o0 N (p, x, y, ()) (fun w29 w30 w31 => (bif decide (w29 = w31.length) then (Option.bind (fn157 (w30, ()) (w31, y, ())) fun v32 => some (((v32.fst.fst, ()), v32.snd.fst, ()))) else none)) n m j o a) (by omega) (by omega) (fun n m j a hj => ?_) (fun n m j a hj => ?_) N 1 (by omega) (by omega)
  · refine this.trans ?_
    rw [← tabP_range p x hR.rows, decide_eq_true hlen.symm]
    simp only [cond_true]
    rw [eval11 (o, ()) (tabP p x, y, ()) (by show ((tabP p x).length : Int) < _; omega) (tab_ok hR x) hy, (hR.tab x).is]
    rfl
  · have rj := row j hj
    conv => lhs; unfold law133o0
    simp only [idx0, idxN hj, Bool.and_self, cond_true, Int.toNat_natCast, gI_get hj, Option.bind_some, rj.1, rj.2, res_1, res_2, bytes52]
  · subst hj
    conv => lhs; unfold law133o0
    simp only [idxN' (Nat.lt_irrefl _), cond_false]
theorem eval17 (o : Bool) (p : Pan) (hp : FewP p) (ho : OkP p) (h : (paneR p != 0) = false) (x y : Int) (hx : I64 x) (hy : I64 y) : fn133 (o, ()) (p, x, y, ()) = some (res (o, paneV p x y)) := lx133 _ (by decide) o p hp ho h x y hx hy
theorem off17 (o : Bool) (p : Pan) (hp : FewP p) (h : (paneR p != 0) = true) (x y : Int) : fn133 (o, ()) (p, x, y, ()) = some (res (o, 0)) := by
  unfold fn133 law133
  simp only [ex156 p hp, Option.bind_some, h, cond_true]; rfl
end Go.Proofs.YtkobnmpilcpojaaGreat
