/- Plain Lean: what the laws of this program's functions come to, in numbers and lists; no program is run here. -/
import Derived.Test.YtkobnmpilcpojaaGreatPPTab
set_option linter.unusedVariables false
set_option linter.unusedSimpArgs false
set_option maxRecDepth 100000
namespace Go.Ab
open Go Go.IntWalk
def gI (l : List Int) (i : Nat) : Int := (l[i]?).getD 0
theorem gI_get {l : List Int} {i : Nat} (h : i < l.length) : l[i]? = some (gI l i) := by unfold gI; rw [List.getElem?_eq_getElem h]; rfl
theorem gI_mem {l : List Int} {i : Nat} (h : i < l.length) : gI l i ∈ l := List.mem_of_getElem? (gI_get h)
def gR (l : List (List Int)) (i : Nat) : List Int := (l[i]?).getD []
theorem gR_get {l : List (List Int)} {i : Nat} (h : i < l.length) : l[i]? = some (gR l i) := by unfold gR; rw [List.getElem?_eq_getElem h]; rfl
theorem gR_mem {l : List (List Int)} {i : Nat} (h : i < l.length) : gR l i ∈ l := List.mem_of_getElem? (gR_get h)
def rowD (xs ys : List Int) : List Dot := List.zipWith (fun x y => (x, y, ())) xs ys
theorem rowD_length (xs ys : List Int) : (rowD xs ys).length = min xs.length ys.length := by simp [rowD]
theorem rowD_nth {xs ys : List Int} {i : Nat} (h : i < xs.length) (h' : i < ys.length) : nth (rowD xs ys) i = (gI xs i, gI ys i, ()) := by
  refine nth_of ?_
  simp only [rowD, List.getElem?_zipWith, gI_get h, gI_get h']
theorem rowD_tX {xs ys : List Int} {i : Nat} (h : i < xs.length) (h' : i < ys.length) : tX (rowD xs ys) i = gI xs i := by unfold tX; rw [rowD_nth h h']
theorem rowD_tY {xs ys : List Int} {i : Nat} (h : i < xs.length) (h' : i < ys.length) : tY (rowD xs ys) i = gI ys i := by unfold tY; rw [rowD_nth h h']
theorem rowD_ok {xs ys : List Int} (h1 : OkL xs) (h2 : OkL ys) : ∀ d ∈ rowD xs ys, OkD d := by
  intro d hd
  obtain ⟨i, hi⟩ := List.mem_iff_getElem?.1 hd
  simp only [rowD, List.getElem?_zipWith] at hi
  cases ha : xs[i]? with
  | none => rw [ha] at hi; simp at hi
  | some a =>
    cases hb : ys[i]? with
    | none => rw [ha, hb] at hi; simp at hi
    | some b =>
      rw [ha, hb] at hi
      injection hi with hi; subst hi
      exact ⟨h1 a (List.mem_of_getElem? ha), h2 b (List.mem_of_getElem? hb)⟩
structure RightP (p : Pan) : Prop where
  x2 : 2 ≤ p.1.length
  x32 : p.1.length ≤ 32
  y2 : 2 ≤ p.2.1.length
  y32 : p.2.1.length ≤ 32
  rows : p.2.2.1.length = p.2.1.length
  row : ∀ r ∈ p.2.2.1, r.length = p.1.length
  farX : ∀ a ∈ p.1, -4503599627370496 ≤ a ∧ a ≤ 4503599627370496
  farY : ∀ a ∈ p.2.1, -4503599627370496 ≤ a ∧ a ≤ 4503599627370496
  farV : ∀ r ∈ p.2.2.1, ∀ a ∈ r, -4503599627370496 ≤ a ∧ a ≤ 4503599627370496
  riseX : ∀ i, i + 1 < p.1.length → gI p.1 i < gI p.1 (i + 1)
  riseY : ∀ i, i + 1 < p.2.1.length → gI p.2.1 i < gI p.2.1 (i + 1)
theorem farI_no {a : Int} (h : farI a = false) : -4503599627370496 ≤ a ∧ a ≤ 4503599627370496 := by
  simp [farI] at h; omega
theorem rightP_of {p : Pan} (h : (paneR p != 0) = false) : RightP p := by
  obtain ⟨h1, h2, h3, h4, h5, h6⟩ := paneR_zero h
  obtain ⟨c1, c2, c3, c4, c5, c6⟩ := counted_le h1
  refine ⟨c1, c2, c3, c4, c5, c6, fun a ha => farI_no ?_, fun a ha => farI_no ?_, fun r hr a ha => farI_no ?_, fun i hi => risesL_get h5 i _ _ (gI_get (by omega)) (gI_get hi), fun i hi => risesL_get h6 i _ _ (gI_get (by omega)) (gI_get hi)⟩
  · cases hq : farI a with
    | false => rfl
    | true => rw [List.any_eq_true.2 ⟨a, ha, hq⟩] at h2; cases h2
  · cases hq : farI a with
    | false => rfl
    | true => rw [List.any_eq_true.2 ⟨a, ha, hq⟩] at h3; cases h3
  · cases hq : farI a with
    | false => rfl
    | true => rw [List.any_eq_true.2 ⟨r, hr, List.any_eq_true.2 ⟨a, ha, hq⟩⟩] at h4; cases h4
theorem RightP.rowT {p : Pan} (h : RightP p) {r : List Int} (hr : r ∈ p.2.2.1) : RightT (rowD p.1 r) := by
  have hl := h.row r hr
  have e : (rowD p.1 r).length = p.1.length := by rw [rowD_length, hl, Nat.min_self]
  refine ⟨by rw [e]; exact h.x2, by rw [e]; exact h.x32, fun i hi => ?_, fun i hi => ?_, fun i hi => ?_⟩
  · rw [e] at hi; rw [rowD_tX hi (by omega)]; exact h.farX _ (gI_mem hi)
  · rw [e] at hi; rw [rowD_tY hi (by omega)]; exact h.farV r hr _ (gI_mem (by omega))
  · rw [e] at hi; rw [rowD_tX (by omega) (by omega), rowD_tX (by omega) (by omega)]; exact h.riseX i hi
def satW (v : Int) : Int := (satS false v).2
def divW (a b : Int) : Int := (divS false a b).2
theorem satS_val (o : Bool) (v : Int) : (satS o v).2 = satW v := by
  unfold satW satS; split
  · rfl
  · split <;> rfl
theorem divS_val (o : Bool) (a b : Int) : (divS o a b).2 = divW a b := by
  unfold divW divS; split
  · rfl
  · rw [satS_val, satS_val]
theorem evalS_val (o o' : Bool) (l : List Dot) (x : Int) : (evalS o l x).2 = (evalS o' l x).2 := by
  unfold evalS
  split
  · rfl
  · split
    · rfl
    · split
      · rfl
      · simp only [stretchS, mixS, addS, subS, mulS, satS_val, divS_val]
def evV (l : List Dot) (x : Int) : Int := (evalS false l x).2
theorem RightT.is {l : List Dot} (h : RightT l) (o : Bool) (x : Int) : evalS o l x = (o, evV l x) := by
  have h1 := (h.eval o x).1
  exact Prod.ext h1 (evalS_val _ _ _ _)
theorem RightT.bounds {l : List Dot} (h : RightT l) (x : Int) {a b : Int} (hb : ∀ i, i < l.length → a ≤ tY l i ∧ tY l i ≤ b) : a ≤ evV l x ∧ evV l x ≤ b := by
  obtain ⟨c1, _, _⟩ := h.cell x
  obtain ⟨_, h1, h2⟩ := h.eval false x
  have b1 := hb (cellV l x) (by omega)
  have b2 := hb (cellV l x + 1) c1
  unfold evV
  rcases Int.le_total (tY l (cellV l x)) (tY l (cellV l x + 1)) with h3 | h3
  · have := h1 h3; omega
  · have := h2 h3; omega
theorem RightT.pick {l : List Dot} (h : RightT l) (y : Int) : evV [nth l (cellV l y), nth l (cellV l y + 1)] y = evV l y := by
  obtain ⟨c1, c2, c3⟩ := h.cell y
  have hlt := h.lt (cellV l y) (cellV l y + 1) (by omega) c1
  have hlast := h.le (cellV l y + 1) (l.length - 1) (by omega) (by have := h.two; omega)
  have hfirst := h.le 0 (cellV l y) (by omega) (by omega)
  have h2 := h.two
  have e0 : tX [nth l (cellV l y), nth l (cellV l y + 1)] 0 = tX l (cellV l y) := rfl
  have e1 : tX [nth l (cellV l y), nth l (cellV l y + 1)] 1 = tX l (cellV l y + 1) := rfl
  have f0 : tY [nth l (cellV l y), nth l (cellV l y + 1)] 0 = tY l (cellV l y) := rfl
  have f1 : tY [nth l (cellV l y), nth l (cellV l y + 1)] 1 = tY l (cellV l y + 1) := rfl
  have hc : cellV [nth l (cellV l y), nth l (cellV l y + 1)] y = 0 := rfl
  by_cases hy0 : y ≤ tX l (cellV l y)
  · -- the stretch's own first point
    have e : evV [nth l (cellV l y), nth l (cellV l y + 1)] y = tY l (cellV l y) := by
      unfold evV evalS
      rw [if_neg (by simp), e0, if_pos hy0, f0]
    rw [e]
    rcases c2 with c2 | c2
    · unfold evV evalS
      rw [if_neg (by omega), if_pos (by rw [c2] at hy0; exact hy0), c2]
    · have : y = tX l (cellV l y) := by omega
      have hp := h.points false (cellV l y) (by omega)
      rw [← this] at hp
      exact hp.symm
  · by_cases hy1 : y ≥ tX l (cellV l y + 1)
    · have e : evV [nth l (cellV l y), nth l (cellV l y + 1)] y = tY l (cellV l y + 1) := by
        unfold evV evalS
        rw [if_neg (by simp), e0, if_neg hy0, show [nth l (cellV l y), nth l (cellV l y + 1)].length - 1 = 1 from rfl, e1, if_pos hy1, f1]
      rw [e]
      have hl : cellV l y + 1 = l.length - 1 := by
        rcases Nat.lt_or_ge (cellV l y + 1 + 1) l.length with h3 | h3
        · have := c3 (cellV l y + 1) (by omega) h3; omega
        · omega
      unfold evV evalS
      rw [if_neg (by omega), if_neg (by omega), if_pos (by rw [← hl]; exact hy1), hl]
    · have hn : ¬ y ≥ tX l (l.length - 1) := by
        rcases Nat.lt_or_ge (cellV l y + 1 + 1) l.length with h3 | h3
        · omega
        · rw [show l.length - 1 = cellV l y + 1 by omega]; exact hy1
      unfold evV evalS
      rw [if_neg (by simp), e0, if_neg hy0, show [nth l (cellV l y), nth l (cellV l y + 1)].length - 1 = 1 from rfl, e1, if_neg hy1, hc]
      rw [if_neg (by omega), if_neg (by omega), if_neg hn]
      rfl
theorem RightT.pairT {l : List Dot} (h : RightT l) {c : Nat} (hc : c + 1 < l.length) : RightT [nth l c, nth l (c + 1)] := by
  refine ⟨by simp, by simp, fun i hi => ?_, fun i hi => ?_, fun i hi => ?_⟩
  · have hi : i < 2 := hi
    match i, hi with
    | 0, _ => exact h.rangeX c (by omega)
    | 1, _ => exact h.rangeX (c + 1) hc
  · have hi : i < 2 := hi
    match i, hi with
    | 0, _ => exact h.rangeY c (by omega)
    | 1, _ => exact h.rangeY (c + 1) hc
  · have hi : i + 1 < 2 := hi
    match i, hi with
    | 0, _ => exact h.rises c hc
def tabP (p : Pan) (x : Int) : List Dot := List.zipWith (fun y r => (y, evV (rowD p.1 r) x, ())) p.2.1 p.2.2.1
theorem tabP_nth {p : Pan} {x : Int} {i : Nat} (h : i < p.2.1.length) (h' : i < p.2.2.1.length) : nth (tabP p x) i = (gI p.2.1 i, evV (rowD p.1 (gR p.2.2.1 i)) x, ()) := by
  refine nth_of ?_
  simp only [tabP, List.getElem?_zipWith, gI_get h, gR_get h']
theorem tabP_range (p : Pan) (x : Int) (h : p.2.2.1.length = p.2.1.length) : tabP p x = (List.range p.2.1.length).map fun k => (gI p.2.1 k, evV (rowD p.1 (gR p.2.2.1 k)) x, ()) := by
  apply List.ext_getElem?
  intro i
  rw [List.getElem?_map]
  by_cases hi : i < p.2.1.length
  · rw [List.getElem?_range hi, nth_get (by simp [tabP]; omega), tabP_nth hi (by omega)]; rfl
  · rw [List.getElem?_eq_none (by simp [tabP]; omega), List.getElem?_eq_none (by simp; omega)]; rfl
theorem RightP.tab {p : Pan} (h : RightP p) (x : Int) : RightT (tabP p x) := by
  have e : (tabP p x).length = p.2.1.length := by simp [tabP, h.rows]
  have hx : ∀ i, i < p.2.1.length → tX (tabP p x) i = gI p.2.1 i := fun i hi => by unfold tX; rw [tabP_nth hi (by rw [h.rows]; exact hi)]
  have hy : ∀ i, i < p.2.1.length → tY (tabP p x) i = evV (rowD p.1 (gR p.2.2.1 i)) x := fun i hi => by unfold tY; rw [tabP_nth hi (by rw [h.rows]; exact hi)]
  refine ⟨by rw [e]; exact h.y2, by rw [e]; exact h.y32, fun i hi => ?_, fun i hi => ?_, fun i hi => ?_⟩
  · rw [e] at hi; rw [hx i hi]; exact h.farY _ (gI_mem hi)
  · rw [e] at hi; rw [hy i hi]
    have hr : gR p.2.2.1 i ∈ p.2.2.1 := gR_mem (by rw [h.rows]; exact hi)
    exact (h.rowT hr).bounds x fun k hk => (h.rowT hr).rangeY k hk
  · rw [e] at hi; rw [hx i (by omega), hx (i + 1) hi]; exact h.riseY i hi
def paneV (p : Pan) (x y : Int) : Int := evV (tabP p x) y
theorem RightP.points {p : Pan} (h : RightP p) {i k : Nat} (hi : i < p.2.1.length) (hk : k < p.1.length) : paneV p (gI p.1 k) (gI p.2.1 i) = gI (gR p.2.2.1 i) k := by
  have e : (tabP p (gI p.1 k)).length = p.2.1.length := by simp [tabP, h.rows]
  have hr : gR p.2.2.1 i ∈ p.2.2.1 := gR_mem (by rw [h.rows]; exact hi)
  have hl := h.row _ hr
  have h1 := (h.tab (gI p.1 k)).points false i (by rw [e]; exact hi)
  have hx : tX (tabP p (gI p.1 k)) i = gI p.2.1 i := by unfold tX; rw [tabP_nth hi (by rw [h.rows]; exact hi)]
  have hy : tY (tabP p (gI p.1 k)) i = evV (rowD p.1 (gR p.2.2.1 i)) (gI p.1 k) := by unfold tY; rw [tabP_nth hi (by rw [h.rows]; exact hi)]
  rw [hx, hy] at h1
  unfold paneV
  rw [show evV (tabP p (gI p.1 k)) (gI p.2.1 i) = _ from h1]
  have h2 := (h.rowT hr).points false k (by rw [rowD_length, hl, Nat.min_self]; exact hk)
  rw [rowD_tX hk (by omega), rowD_tY hk (by omega)] at h2
  exact h2
theorem RightP.pick {p : Pan} (h : RightP p) (x y : Int) : evV [nth (tabP p x) (cellV (tabP p x) y), nth (tabP p x) (cellV (tabP p x) y + 1)] y = paneV p x y := (h.tab x).pick y
theorem lastLE_X {l l' : List Dot} (x : Int) : ∀ m, (∀ k, k ≤ m → tX l k = tX l' k) → lastLE l x m = lastLE l' x m
  | 0, _ => rfl
  | m + 1, h => by
    unfold lastLE
    rw [h (m + 1) (Nat.le_refl _), lastLE_X x m fun k hk => h k (by omega)]
theorem cellV_X {l l' : List Dot} (x : Int) (hl : l.length = l'.length) (h : ∀ k, k < l.length → tX l k = tX l' k) : cellV l x = cellV l' x := by
  unfold cellV
  rw [hl]
  by_cases h0 : l'.length ≤ 1
  · rw [show l'.length - 2 = 0 by omega]; rfl
  · exact lastLE_X x _ fun k hk => h k (by omega)
def xsD (l : List Int) : List Dot := l.map fun n => (n, 0, ())
theorem RightP.cell {p : Pan} (h : RightP p) (x y : Int) : cellV (xsD p.2.1) y = cellV (tabP p x) y := by
  refine cellV_X y (by simp [xsD, tabP, h.rows]) fun k hk => ?_
  simp only [xsD, List.length_map] at hk
  unfold tX
  rw [tabP_nth hk (by rw [h.rows]; exact hk), nth_of (show (xsD p.2.1)[k]? = some (gI p.2.1 k, 0, ()) by simp [xsD, gI_get hk])]
end Go.Ab
