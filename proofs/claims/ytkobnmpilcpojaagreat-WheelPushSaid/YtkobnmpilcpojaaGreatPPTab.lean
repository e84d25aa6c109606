/- Plain Lean: what the laws of this program's functions come to, in numbers and lists; no program is run here. -/
import Derived.Test.YtkobnmpilcpojaaGreatPPOk
set_option linter.unusedVariables false
set_option linter.unusedSimpArgs false
set_option maxRecDepth 100000
namespace Go.Ab
open Go Go.IntWalk
def nth (l : List Dot) (i : Nat) : Dot := (l[i]?).getD (0, 0, ())
def tX (l : List Dot) (i : Nat) : Int := (nth l i).1
def tY (l : List Dot) (i : Nat) : Int := (nth l i).2.1
theorem nth_of {l : List Dot} {i : Nat} {v : Dot} (h : l[i]? = some v) : nth l i = v := by unfold nth; rw [h]; rfl
theorem nth_get {l : List Dot} {i : Nat} (h : i < l.length) : l[i]? = some (nth l i) := by unfold nth; rw [List.getElem?_eq_getElem h]; rfl
theorem nth_mem {l : List Dot} {i : Nat} (h : i < l.length) : nth l i ∈ l := List.mem_of_getElem? (nth_get h)
def lastLE (l : List Dot) (x : Int) : Nat → Nat
  | 0 => 0
  | i + 1 => if tX l (i + 1) ≤ x then i + 1 else lastLE l x i
def cellV (l : List Dot) (x : Int) : Nat := lastLE l x (l.length - 2)
theorem lastLE_le (l : List Dot) (x : Int) : ∀ m, lastLE l x m ≤ m
  | 0 => Nat.le_refl _
  | m + 1 => by
    unfold lastLE
    split
    · exact Nat.le_refl _
    · have := lastLE_le l x m; omega
theorem lastLE_at (l : List Dot) (x : Int) : ∀ m, lastLE l x m = 0 ∨ tX l (lastLE l x m) ≤ x
  | 0 => .inl rfl
  | m + 1 => by
    unfold lastLE
    split
    · rename_i h; exact .inr h
    · exact lastLE_at l x m
theorem lastLE_beyond (l : List Dot) (x : Int) : ∀ m k, lastLE l x m < k → k ≤ m → x < tX l k
  | 0, k, h, hk => by omega
  | m + 1, k, h, hk => by
    unfold lastLE at h
    split at h
    · omega
    · rename_i hx
      by_cases hkm : k = m + 1
      · subst hkm; omega
      · exact lastLE_beyond l x m k h (by omega)
theorem lastLE_eq (l : List Dot) (x : Int) (n m : Nat) (hn : n ≤ m + 1) (h1 : ∀ k, k < n → tX l k ≤ x) (h2 : ∀ k, n ≤ k → k ≤ m → x < tX l k) : lastLE l x m = n - 1 := by
  have a := lastLE_le l x m
  rcases Nat.lt_trichotomy (lastLE l x m) (n - 1) with h | h | h
  · have := lastLE_beyond l x m (n - 1) h (by omega)
    have := h1 (n - 1) (by omega)
    omega
  · exact h
  · rcases lastLE_at l x m with h0 | h0
    · omega
    · have := h2 (lastLE l x m) (by omega) a
      omega
def mixS (o : Bool) (a b t : Int) : Bool × Int :=
  let p := subS o b a
  let q := mulS p.1 p.2 t
  addS q.1 a q.2
def stretchS (o : Bool) (a b : Dot) (x : Int) : Bool × Int :=
  let p := subS o x a.1
  let q := subS p.1 b.1 a.1
  let r := divS q.1 p.2 q.2
  mixS r.1 a.2.1 b.2.1 r.2
def evalS (o : Bool) (l : List Dot) (x : Int) : Bool × Int :=
  if l.length = 0 then (o, 0) else if x ≤ tX l 0 then (o, tY l 0) else if x ≥ tX l (l.length - 1) then (o, tY l (l.length - 1)) else stretchS o (nth l (cellV l x)) (nth l (cellV l x + 1)) x
theorem evalS_r (o : Bool) (l : List Dot) (x : Int) (h : ∀ d ∈ l, OkD d) : I64 (evalS o l x).2 := by
  unfold evalS
  split
  · exact I64_zero
  · split
    · exact (h _ (nth_mem (by omega))).2
    · split
      · exact (h _ (nth_mem (by omega))).2
      · exact addS_r _ _ _
structure RightT (l : List Dot) : Prop where
  two : 2 ≤ l.length
  most : l.length ≤ 32
  rangeX : ∀ i, i < l.length → -4503599627370496 ≤ tX l i ∧ tX l i ≤ 4503599627370496
  rangeY : ∀ i, i < l.length → -4503599627370496 ≤ tY l i ∧ tY l i ≤ 4503599627370496
  rises : ∀ i, i + 1 < l.length → tX l i < tX l (i + 1)
theorem RightT.lt {l : List Dot} (h : RightT l) : ∀ i j, i < j → j < l.length → tX l i < tX l j := by
  intro i j
  induction j with
  | zero => intro hij; omega
  | succ j ih =>
    intro hij hj
    have h1 := h.rises j hj
    by_cases g : i = j
    · subst g; exact h1
    · have := ih (by omega) (by omega); omega
theorem RightT.le {l : List Dot} (h : RightT l) (i j : Nat) (hij : i ≤ j) (hj : j < l.length) : tX l i ≤ tX l j := by
  rcases Nat.lt_or_eq_of_le hij with g | g
  · have := h.lt i j g hj; omega
  · subst g; omega
theorem RightT.cell {l : List Dot} (h : RightT l) (x : Int) : cellV l x + 1 < l.length ∧ (cellV l x = 0 ∨ tX l (cellV l x) ≤ x) ∧ (∀ k, cellV l x < k → k + 1 < l.length → x < tX l k) := by
  have h2 := h.two
  have := lastLE_le l x (l.length - 2)
  refine ⟨by unfold cellV; omega, lastLE_at l x _, fun k hk hk2 => lastLE_beyond l x _ k hk (by omega)⟩
theorem mulV_between {c t : Int} (ht : 0 ≤ t ∧ t ≤ 4294967296) : (0 ≤ c → 0 ≤ mulV c t ∧ mulV c t ≤ c) ∧ (c ≤ 0 → c ≤ mulV c t ∧ mulV c t ≤ 0) := by
  unfold mulV
  constructor
  · intro hc
    have h1 : 0 ≤ c * t := Int.mul_nonneg hc ht.1
    have h2 : c * t ≤ c * 4294967296 := Int.mul_le_mul_of_nonneg_left ht.2 hc
    exact ⟨rnd_nonneg (by decide) h1, rnd_le (by decide) h2⟩
  · intro hc
    have h1 : c * t ≤ 0 := Int.mul_nonpos_of_nonpos_of_nonneg hc ht.1
    have h2 : c * 4294967296 ≤ c * t := Int.mul_le_mul_of_nonpos_left hc ht.2
    exact ⟨le_rnd (by decide) h2, rnd_nonpos (by decide) h1⟩
theorem stretch_fits (o : Bool) (a b : Dot) (x : Int) (ha : -4503599627370496 ≤ a.1 ∧ a.1 ≤ 4503599627370496) (hb : -4503599627370496 ≤ b.1 ∧ b.1 ≤ 4503599627370496) (ya : -4503599627370496 ≤ a.2.1 ∧ a.2.1 ≤ 4503599627370496) (yb : -4503599627370496 ≤ b.2.1 ∧ b.2.1 ≤ 4503599627370496) (h1 : a.1 ≤ x) (h2 : x < b.1) :
    stretchS o a b x = (o, a.2.1 + mulV (b.2.1 - a.2.1) (rnd ((x - a.1) * 4294967296) (b.1 - a.1))) ∧ 0 ≤ rnd ((x - a.1) * 4294967296) (b.1 - a.1) ∧ rnd ((x - a.1) * 4294967296) (b.1 - a.1) ≤ 4294967296 := by
  have hd : 0 < b.1 - a.1 := by omega
  have t1 : 0 ≤ rnd ((x - a.1) * 4294967296) (b.1 - a.1) := rnd_nonneg hd (by omega)
  have t2 : rnd ((x - a.1) * 4294967296) (b.1 - a.1) ≤ 4294967296 := rnd_le hd (by omega)
  refine ⟨?_, t1, t2⟩
  have hm := mulV_between (c := b.2.1 - a.2.1) ⟨t1, t2⟩
  have hmr : -9007199254740992 ≤ mulV (b.2.1 - a.2.1) (rnd ((x - a.1) * 4294967296) (b.1 - a.1)) ∧ mulV (b.2.1 - a.2.1) (rnd ((x - a.1) * 4294967296) (b.1 - a.1)) ≤ 9007199254740992 := by
    rcases Int.le_total 0 (b.2.1 - a.2.1) with h | h
    · have := hm.1 h; omega
    · have := hm.2 h; omega
  have hmb : a.2.1 + mulV (b.2.1 - a.2.1) (rnd ((x - a.1) * 4294967296) (b.1 - a.1)) ≤ 9223372036854775807 ∧ -9223372036854775808 ≤ a.2.1 + mulV (b.2.1 - a.2.1) (rnd ((x - a.1) * 4294967296) (b.1 - a.1)) := by omega
  have e1 : subS o x a.1 = (o, x - a.1) := satS_in (by unfold I64; omega)
  have e2 : subS o b.1 a.1 = (o, b.1 - a.1) := satS_in (by unfold I64; omega)
  have e3 : divS o (x - a.1) (b.1 - a.1) = (o, rnd ((x - a.1) * 4294967296) (b.1 - a.1)) := by
    unfold divS divV
    rw [if_neg (by omega), if_neg (by omega), satS_in (by unfold I64; omega)]
  have e4 : subS o b.2.1 a.2.1 = (o, b.2.1 - a.2.1) := satS_in (by unfold I64; omega)
  have e5 : mulS o (b.2.1 - a.2.1) (rnd ((x - a.1) * 4294967296) (b.1 - a.1)) = (o, mulV (b.2.1 - a.2.1) (rnd ((x - a.1) * 4294967296) (b.1 - a.1))) := satS_in (by unfold I64; omega)
  unfold stretchS mixS
  simp only [e1, e2, e3, e4, e5]
  exact satS_in ⟨hmb.2, hmb.1⟩
theorem RightT.eval {l : List Dot} (h : RightT l) (o : Bool) (x : Int) : (evalS o l x).1 = o ∧ ((tY l (cellV l x) ≤ tY l (cellV l x + 1) → tY l (cellV l x) ≤ (evalS o l x).2 ∧ (evalS o l x).2 ≤ tY l (cellV l x + 1)) ∧ (tY l (cellV l x + 1) ≤ tY l (cellV l x) → tY l (cellV l x + 1) ≤ (evalS o l x).2 ∧ (evalS o l x).2 ≤ tY l (cellV l x))) := by
  obtain ⟨c1, c2, c3⟩ := h.cell x
  have h2 := h.two
  unfold evalS
  rw [if_neg (by omega)]
  by_cases k1 : x ≤ tX l 0
  · rw [if_pos k1]
    have hc : cellV l x = 0 := by
      rcases c2 with c2 | c2
      · exact c2
      · apply Classical.byContradiction
        intro hne
        have := h.lt 0 (cellV l x) (by omega) (by omega)
        omega
    rw [hc]
    exact ⟨rfl, fun g => ⟨Int.le_refl _, g⟩, fun g => ⟨g, Int.le_refl _⟩⟩
  · rw [if_neg k1]
    by_cases k2 : x ≥ tX l (l.length - 1)
    · rw [if_pos k2]
      have hc : cellV l x = l.length - 2 := by
        apply Classical.byContradiction
        intro hne
        have := c3 (l.length - 2) (by omega) (by omega)
        have := h.lt (l.length - 2) (l.length - 1) (by omega) (by omega)
        omega
      rw [hc, show l.length - 2 + 1 = l.length - 1 by omega]
      exact ⟨rfl, fun g => ⟨g, Int.le_refl _⟩, fun g => ⟨Int.le_refl _, g⟩⟩
    · rw [if_neg k2]
      have b1 : tX l (cellV l x) ≤ x := by
        rcases c2 with c2 | c2
        · rw [c2]; omega
        · exact c2
      have b2 : x < tX l (cellV l x + 1) := by
        by_cases g : cellV l x + 1 + 1 < l.length
        · exact c3 _ (by omega) g
        · rw [show cellV l x + 1 = l.length - 1 by omega]; omega
      obtain ⟨e1, t1, t2⟩ := stretch_fits o (nth l (cellV l x)) (nth l (cellV l x + 1)) x (h.rangeX _ (by omega)) (h.rangeX _ c1) (h.rangeY _ (by omega)) (h.rangeY _ c1) b1 b2
      rw [e1]
      have hm := mulV_between (c := (nth l (cellV l x + 1)).2.1 - (nth l (cellV l x)).2.1) ⟨t1, t2⟩
      refine ⟨rfl, fun g => ?_, fun g => ?_⟩
      · have g : (nth l (cellV l x)).2.1 ≤ (nth l (cellV l x + 1)).2.1 := g
        have := hm.1 (by omega)
        exact ⟨by show (nth l (cellV l x)).2.1 ≤ _; omega, by show _ ≤ (nth l (cellV l x + 1)).2.1; omega⟩
      · have g : (nth l (cellV l x + 1)).2.1 ≤ (nth l (cellV l x)).2.1 := g
        have := hm.2 (by omega)
        exact ⟨by show (nth l (cellV l x + 1)).2.1 ≤ _; omega, by show _ ≤ (nth l (cellV l x)).2.1; omega⟩
theorem lastLE_mono (l : List Dot) {a b : Int} (h : a ≤ b) : ∀ m, lastLE l a m ≤ lastLE l b m
  | 0 => Nat.le_refl _
  | m + 1 => by
    unfold lastLE
    split
    · rw [if_pos (by omega)]; exact Nat.le_refl _
    · split
      · have := lastLE_le l a m; omega
      · exact lastLE_mono l h m
theorem RightT.mono {l : List Dot} (h : RightT l) (hY : ∀ i, i + 1 < l.length → tY l i ≤ tY l (i + 1)) (o o' : Bool) {a b : Int} (hab : a ≤ b) : (evalS o l a).2 ≤ (evalS o' l b).2 := by
  have hYle : ∀ i j, i ≤ j → j < l.length → tY l i ≤ tY l j := by
    intro i j
    induction j with
    | zero =>
      intro hij hj
      rw [show i = 0 by omega]; omega
    | succ j ih =>
      intro hij hj
      have h1 := hY j hj
      by_cases g : i = j + 1
      · subst g; omega
      · have := ih (by omega) (by omega); omega
  have hc : cellV l a ≤ cellV l b := lastLE_mono l hab _
  obtain ⟨a1, a2, a3⟩ := h.cell a
  obtain ⟨b1, b2, b3⟩ := h.cell b
  have ea := (h.eval o a).2.1 (hY _ a1)
  have eb := (h.eval o' b).2.1 (hY _ b1)
  rcases Nat.lt_or_eq_of_le hc with hlt | heq
  · have := hYle (cellV l a + 1) (cellV l b) hlt (by omega)
    omega
  · rw [← heq] at eb b1 b2 b3
    have h2 := h.two
    -- one stretch
    by_cases k1 : a ≤ tX l 0
    · have : (evalS o l a).2 = tY l 0 := by unfold evalS; rw [if_neg (by omega), if_pos k1]
      have hca : cellV l a = 0 := by
        rcases a2 with a2 | a2
        · exact a2
        · apply Classical.byContradiction
          intro hne
          have := h.lt 0 (cellV l a) (by omega) (by omega)
          omega
      rw [hca] at eb; omega
    by_cases k2 : b ≥ tX l (l.length - 1)
    · have : (evalS o' l b).2 = tY l (l.length - 1) := by unfold evalS; rw [if_neg (by omega), if_neg (by omega), if_pos k2]
      have := hYle (cellV l a + 1) (l.length - 1) (by omega) (by omega)
      omega
    have p1 : tX l (cellV l a) ≤ a := by
      rcases a2 with a2 | a2
      · rw [a2]; omega
      · exact a2
    have p2 : b < tX l (cellV l a + 1) := by
      by_cases g : cellV l a + 1 + 1 < l.length
      · exact b3 _ (by omega) g
      · rw [show cellV l a + 1 = l.length - 1 by omega]; omega
    have ea' : evalS o l a = stretchS o (nth l (cellV l a)) (nth l (cellV l a + 1)) a := by unfold evalS; rw [if_neg (by omega), if_neg k1, if_neg (by omega)]
    have eb' : evalS o' l b = stretchS o' (nth l (cellV l a)) (nth l (cellV l a + 1)) b := by unfold evalS; rw [if_neg (by omega), if_neg (by omega), if_neg k2, ← heq]
    obtain ⟨s1, _, _⟩ := stretch_fits o (nth l (cellV l a)) (nth l (cellV l a + 1)) a (h.rangeX _ (by omega)) (h.rangeX _ a1) (h.rangeY _ (by omega)) (h.rangeY _ a1) p1 (Int.lt_of_le_of_lt hab p2)
    obtain ⟨s2, _, _⟩ := stretch_fits o' (nth l (cellV l a)) (nth l (cellV l a + 1)) b (h.rangeX _ (by omega)) (h.rangeX _ a1) (h.rangeY _ (by omega)) (h.rangeY _ a1) (Int.le_trans p1 hab) p2
    rw [ea', eb', s1, s2]
    have hy : 0 ≤ (nth l (cellV l a + 1)).2.1 - (nth l (cellV l a)).2.1 := by have : (nth l (cellV l a)).2.1 ≤ (nth l (cellV l a + 1)).2.1 := hY _ a1; omega
    have hd : 0 < (nth l (cellV l a + 1)).1 - (nth l (cellV l a)).1 := by have : (nth l (cellV l a)).1 < (nth l (cellV l a + 1)).1 := h.rises _ a1; omega
    have ht : rnd ((a - (nth l (cellV l a)).1) * 4294967296) ((nth l (cellV l a + 1)).1 - (nth l (cellV l a)).1) ≤ rnd ((b - (nth l (cellV l a)).1) * 4294967296) ((nth l (cellV l a + 1)).1 - (nth l (cellV l a)).1) := rnd_mono hd (by omega)
    have hmul : mulV ((nth l (cellV l a + 1)).2.1 - (nth l (cellV l a)).2.1) (rnd ((a - (nth l (cellV l a)).1) * 4294967296) ((nth l (cellV l a + 1)).1 - (nth l (cellV l a)).1)) ≤ mulV ((nth l (cellV l a + 1)).2.1 - (nth l (cellV l a)).2.1) (rnd ((b - (nth l (cellV l a)).1) * 4294967296) ((nth l (cellV l a + 1)).1 - (nth l (cellV l a)).1)) := by
      unfold mulV
      exact rnd_mono (by decide) (Int.mul_le_mul_of_nonneg_left ht hy)
    show (nth l (cellV l a)).2.1 + _ ≤ (nth l (cellV l a)).2.1 + _
    omega
theorem RightT.points {l : List Dot} (h : RightT l) (o : Bool) (i : Nat) (hi : i < l.length) : (evalS o l (tX l i)).2 = tY l i := by
  have h2 := h.two
  unfold evalS
  rw [if_neg (by omega)]
  by_cases k1 : i = 0
  · subst k1; rw [if_pos (Int.le_refl _)]
  · have := h.lt 0 i (by omega) hi
    rw [if_neg (by omega)]
    by_cases k2 : i = l.length - 1
    · subst k2; rw [if_pos (Int.le_refl _)]
    · have := h.lt i (l.length - 1) (by omega) (by omega)
      rw [if_neg (by omega)]
      have hc : cellV l (tX l i) = i := by
        unfold cellV
        rw [lastLE_eq l (tX l i) (i + 1) (l.length - 2) (by omega) (fun k hk => h.le k i (by omega) hi) (fun k hk hk2 => h.lt i k (by omega) (by omega))]
        omega
      rw [hc]
      obtain ⟨e, _, _⟩ := stretch_fits o (nth l i) (nth l (i + 1)) (tX l i) (h.rangeX _ (by omega)) (h.rangeX _ (by omega)) (h.rangeY _ (by omega)) (h.rangeY _ (by omega)) (Int.le_refl _) (h.rises i (by omega))
      have hz : (tX l i - (nth l i).1) * 4294967296 = 0 := by
        have : tX l i = (nth l i).1 := rfl
        rw [this]; omega
      rw [e, hz, rnd_zero (by have : (nth l i).1 < (nth l (i + 1)).1 := h.rises i (by omega); omega)]
      have : mulV ((nth l (i + 1)).2.1 - (nth l i).2.1) 0 = 0 := by unfold mulV; rw [Int.mul_zero]; exact rnd_zero (by decide)
      rw [this]
      show (nth l i).2.1 + 0 = _
      rw [Int.add_zero]; rfl
end Go.Ab
