/-
  CORE 17: abstract values seen as values of a shape (to hand them to a function that only reads them).
-/
import Derived.Test.YtiikkepnpidilaaCore16
set_option linter.unusedVariables false
set_option linter.unusedSimpArgs false
namespace Go.Ab

/-! ### shapes are equal -/
mutual
def Sh.same : (a b : Sh) → Option (PLift (a = b))
  | .int k, .int k' => if h : k = k' then some ⟨by rw [h]⟩ else none
  | .bool, .bool => some ⟨rfl⟩
  | .str, .str => some ⟨rfl⟩
  | .st l, .st l' => match Sh.sames l l' with
    | some h => some ⟨by rw [h.down]⟩
    | none => none
  | .sl a, .sl b => match Sh.same a b with
    | some h => some ⟨by rw [h.down]⟩
    | none => none
  | .rows a, .rows b => match Sh.same a b with
    | some h => some ⟨by rw [h.down]⟩
    | none => none
  | _, _ => none
def Sh.sames : (a b : List Sh) → Option (PLift (a = b))
  | [], [] => some ⟨rfl⟩
  | a :: l, b :: m => match Sh.same a b, Sh.sames l m with
    | some h, some h' => some ⟨by rw [h.down, h'.down]⟩
    | _, _ => none
  | _, _ => none
end

/-! ### from cells -/
def decInt (k : IntKind) : List AV → Option (Int × List AV)
  | .val (.int k' x) :: r => if k' = k then some (x, r) else none
  | _ => none
def decBool : List AV → Option (Bool × List AV)
  | .val (.bool b) :: r => some (b, r)
  | _ => none
def decStr : List AV → Option (ByteArray × List AV)
  | .val (.string s) :: r => some (s, r)
  | _ => none
mutual
def Sh.dec : (s : Sh) → List AV → Option (s.T × List AV)
  | .int k, cs => decInt k cs
  | .bool, cs => decBool cs
  | .str, cs => decStr cs
  | .st l, cs => Sh.decs l cs
  | .sl _, _ => none
  | .rows _, _ => none
def Sh.decs : (l : List Sh) → List AV → Option (Sh.Ts l × List AV)
  | [], cs => some ((), cs)
  | s :: l, cs => match Sh.dec s cs with
    | some (y, r) => (match Sh.decs l r with
      | some (z, r') => some ((y, z), r')
      | none => none)
    | none => none
end
mutual
theorem dec_ok : ∀ (s : Sh) (cs : List AV) (y : s.T) (r : List AV), s.dec cs = some (y, r) → s.flat = true ∧ cs = (s.enc y).map .val ++ r
  | .int k, cs, y, r, h => by
    simp only [Sh.dec] at h
    unfold decInt at h
    split at h
    · split at h
      · rename_i hk; subst hk; injection h with h; injection h with h1 h2; subst h1; subst h2; exact ⟨rfl, rfl⟩
      · cases h
    · cases h
  | .bool, cs, y, r, h => by
    simp only [Sh.dec] at h
    unfold decBool at h
    split at h
    · injection h with h; injection h with h1 h2; subst h1; subst h2; exact ⟨rfl, rfl⟩
    · cases h
  | .str, cs, y, r, h => by
    simp only [Sh.dec] at h
    unfold decStr at h
    split at h
    · injection h with h; injection h with h1 h2; subst h1; subst h2; exact ⟨rfl, rfl⟩
    · cases h
  | .st l, cs, y, r, h => by
    simp only [Sh.dec] at h
    simpa [Sh.flat, Sh.enc] using decs_ok l cs y r h
  | .sl _, cs, y, r, h => by simp [Sh.dec] at h
  | .rows _, cs, y, r, h => by simp [Sh.dec] at h
theorem decs_ok : ∀ (l : List Sh) (cs : List AV) (y : Sh.Ts l) (r : List AV), Sh.decs l cs = some (y, r) → Sh.flats l = true ∧ cs = (Sh.encs l y).map .val ++ r
  | [], cs, y, r, h => by
    simp only [Sh.decs] at h; injection h with h; injection h with h1 h2; subst h2; exact ⟨rfl, rfl⟩
  | s :: l, cs, y, r, h => by
    simp only [Sh.decs] at h
    split at h
    case h_2 => cases h
    rename_i y0 r0 h0
    split at h
    case h_2 => cases h
    rename_i z r' h1
    injection h with h; injection h with e1 e2; subst e1; subst e2
    obtain ⟨f1, g1⟩ := dec_ok s cs y0 r0 h0
    obtain ⟨f2, g2⟩ := decs_ok l r0 z r' h1
    exact ⟨by simp [Sh.flats, f1, f2], by rw [g1, g2]; simp [Sh.encs]⟩
end
def decN (s : Sh) : Nat → List AV → Option (List s.T)
  | 0, _ => some []
  | n + 1, cs => match s.dec cs with
    | some (y, r) => (match decN s n r with
      | some l => some (y :: l)
      | none => none)
    | none => none
theorem decN_ok {s : Sh} : ∀ (n : Nat) (cs : List AV) (l : List s.T), decN s n cs = some l → l.length = n ∧ ∃ r, cs = (s.flatl l).map .val ++ r
  | 0, cs, l, h => by simp [decN] at h; subst h; exact ⟨rfl, cs, rfl⟩
  | n + 1, cs, l, h => by
    simp only [decN] at h
    split at h
    case h_2 => cases h
    rename_i y r hy
    split at h
    case h_2 => cases h
    rename_i l' hl
    injection h with h; subst h
    obtain ⟨h1, r', h2⟩ := decN_ok n r l' hl
    exact ⟨by simp [h1], r', by rw [(dec_ok s cs y r hy).2, h2]; simp [Sh.flatl]⟩

/-- A part of a list. -/
def cut {α : Type} (l : List α) (k n : Nat) : List α := (l.drop k).take n
theorem decide_self (n : Nat) : decide (n = n) = true := by simp
theorem cut_all {α : Type} (l : List α) : cut l 0 l.length = l := by simp [cut]
theorem cut_length {α : Type} {l : List α} {k n : Nat} (h : k + n ≤ l.length) : (cut l k n).length = n := by simp [cut]; omega

theorem flatl_drop {s : Sh} (hf : s.flat = true) (l : List s.T) : ∀ k, s.flatl (l.drop k) = (s.flatl l).drop (k * s.w) := by
  induction l with
  | nil => intro k; simp [Sh.flatl]
  | cons y l ih =>
    intro k
    cases k with
    | zero => simp
    | succ k =>
      rw [List.drop_succ_cons, ih k]
      simp only [Sh.flatl, List.flatMap_cons]
      have e := enc_length s y hf
      rw [List.drop_append, List.drop_eq_nil_of_le (show (s.enc y).length ≤ (k + 1) * s.w by rw [e, Nat.add_mul]; omega), e, show (k + 1) * s.w - s.w = k * s.w by rw [Nat.add_mul]; omega]
      rfl
theorem flatl_take_get {s : Sh} (l : List s.T) (n : Nat) {j : Nat} {v : Value} (h : (s.flatl (l.take n))[j]? = some v) : (s.flatl l)[j]? = some v := by
  have : s.flatl l = s.flatl (l.take n) ++ s.flatl (l.drop n) := by
    conv => lhs; rw [← List.take_append_drop n l]
    simp only [Sh.flatl, List.flatMap_append]
  rw [this, List.getElem?_append_left (List.getElem?_eq_some_iff.1 h).1]; exact h

/-- So many parts of a shape from an offset on, and on which condition. -/
def partsOf (s : Sh) (cs : Cells) (o n : Nat) : Option (List s.T × Bool) :=
  if s.flat = true ∧ 0 < s.w then
    match cs with
    | .arr s' l => match Sh.same s' s with
      | some h => (match o with
        | 0 => some (h.down ▸ l, decide (n = l.length))
        | _ + 1 => (match eltAt s.w o 0 with
          | some k => some (cut (h.down ▸ l) k n, decide (k + n ≤ l.length))
          | none => none))
      | none => none
    | .lit l => (match decN s n (l.drop o) with
      | some y => some (y, true)
      | none => none)
    | _ => none
  else none

theorem partsOf_ok {ρ : Ren} {w : World} {cb co : Nat} {cs : Cells} (hc : CellsAt ρ w cb co cs) {s : Sh} {o n : Nat} {y : List s.T} {c : Bool} (h : partsOf s cs o n = some (y, c)) (hb : c = true) :
    y.length = n ∧ s.flat = true ∧ 0 < s.w ∧ ∀ (j : Nat) (v : Value), (s.flatl y)[j]? = some v → w.cell? ⟨cb, co + o + j, none⟩ = some v := by
  unfold partsOf at h
  split at h
  case isFalse => cases h
  rename_i hfw
  obtain ⟨hf, hw⟩ := hfw
  split at h
  · rename_i s' l
    split at h
    case h_2 => cases h
    rename_i hs _
    obtain ⟨hs⟩ := hs
    subst hs
    split at h
    · injection h with h; injection h with h1 h2; subst h1; subst h2
      have hb : n = l.length := by simpa using hb
      exact ⟨hb.symm, hf, hw, fun j v hj => by rw [Nat.add_zero]; exact hc j v hj⟩
    rename_i o'
    split at h
    case h_2 => cases h
    rename_i k hk
    injection h with h; injection h with h1 h2; subst h1; subst h2
    have hb : k + n ≤ l.length := by simpa using hb
    obtain ⟨hk1, _⟩ := eltAt_some hk
    refine ⟨cut_length hb, hf, hw, fun j v hj => ?_⟩
    have h3 := flatl_take_get _ _ hj
    rw [flatl_drop hf, List.getElem?_drop] at h3
    have := hc _ _ h3
    rw [show co + (o' + 1) + j = co + (k * s'.w + j) by omega]; exact this
  · rename_i l
    split at h
    case h_2 => cases h
    rename_i y' hy
    injection h with h; injection h with h1 h2; subst h1
    obtain ⟨h3, r, h4⟩ := decN_ok n _ _ hy
    refine ⟨h3, hf, hw, fun j v hj => ?_⟩
    have h5 : l[o + j]? = some (.val v) := by
      have : (l.drop o)[j]? = some (.val v) := by
        rw [h4, List.getElem?_append_left (by simp; exact (List.getElem?_eq_some_iff.1 hj).1)]
        simp [hj]
      rwa [List.getElem?_drop] at this
    obtain ⟨cv, h6, h7⟩ := hc _ _ h5
    simp only [VR] at h7; subst h7
    rw [Nat.add_assoc]; exact h6
  · cases h

theorem partsOf_len {s : Sh} {cs : Cells} {o n : Nat} {y : List s.T} {c : Bool} (h : partsOf s cs o n = some (y, c)) (hl : 0 < (s.flatl y).length) : 0 < cs.len := by
  unfold partsOf at h
  split at h
  case isFalse => cases h
  rename_i hfw
  split at h
  · rename_i s' l
    split at h
    case h_2 => cases h
    rename_i hs _
    obtain ⟨hs⟩ := hs
    subst hs
    split at h
    · injection h with h; injection h with h1 h2; subst h1; exact hl
    · split at h
      case h_2 => cases h
      rename_i k hk
      injection h with h; injection h with h1 h2; subst h1
      have h3 : (s'.flatl (cut l k n)).length ≠ 0 := Nat.pos_iff_ne_zero.1 hl
      rw [flatl_length s' hfw.1] at h3
      have h4 : (cut l k n).length ≠ 0 := fun e => h3 (by rw [e]; simp)
      have h5 : l.length ≠ 0 := fun e => h4 (by simp [cut, List.length_eq_zero_iff.1 e])
      show 0 < (s'.flatl l).length
      rw [flatl_length s' hfw.1]
      exact Nat.mul_pos (by omega) hfw.2
  · rename_i l
    split at h
    case h_2 => cases h
    rename_i y' hy
    injection h with h; injection h with h1 h2; subst h1
    obtain ⟨h3, r, h4⟩ := decN_ok n _ _ hy
    have := congrArg List.length h4
    simp at this
    show 0 < l.length
    omega
  · cases h
/-! ### seen -/
def viewSl (H : Nat → Ent) (e : Sh) : AV → Option (List e.T × List Nat × Bool)
  | .slc b o n _ => match H b with
    | .live blk => (match partsOf e blk.cells o n with
      | some (y, c) => some (y, [b], c)
      | none => none)
    | _ => none
  | .val (.slice none 0 0) => some ([], [], true)
  | _ => none
def viewRw (H : Nat → Ent) (e : Sh) : AV → Option (List (List e.T) × List Nat × Bool)
  | .slc b o n _ => if e.flat = true ∧ e.w = 1 then (match H b with
    | .live blk => (match blk.cells with
      | .arrs e' l => (match Sh.same e' e with
        | some h => (match o with
          | 0 => some (h.down ▸ l, [b], decide (n = l.length))
          | o' + 1 => some (cut (h.down ▸ l) (o' + 1) n, [b], decide (o' + 1 + n ≤ l.length)))
        | none => none)
      | _ => none)
    | _ => none) else none
  | .val (.slice none 0 0) => if e.flat = true ∧ e.w = 1 then some ([], [], true) else none
  | _ => none
mutual
def viewC (H : Nat → Ent) : (s : Sh) → List AV → Option (s.T × List Nat × Bool × List AV)
  | .int k, cs => (match Sh.dec (.int k) cs with
    | some (y, r) => some (y, [], true, r)
    | none => none)
  | .bool, cs => (match Sh.dec .bool cs with
    | some (y, r) => some (y, [], true, r)
    | none => none)
  | .str, cs => (match Sh.dec .str cs with
    | some (y, r) => some (y, [], true, r)
    | none => none)
  | .st l, cs => viewCs H l cs
  | .sl e, a :: r => (match viewSl H e a with
    | some (y, b, c) => some (y, b, c, r)
    | none => none)
  | .rows e, a :: r => (match viewRw H e a with
    | some (y, b, c) => some (y, b, c, r)
    | none => none)
  | _, _ => none
def viewCs (H : Nat → Ent) : (l : List Sh) → List AV → Option (Sh.Ts l × List Nat × Bool × List AV)
  | [], cs => some ((), [], true, cs)
  | s :: l, cs => match viewC H s cs with
    | some (y, b, c, r) => (match viewCs H l r with
      | some (z, b', c', r') => some ((y, z), b ++ b', c && c', r')
      | none => none)
    | none => none
end

/-- A place that belongs to one of the blocks told. -/
def From (ρ0 : Ren) (h : Heap) (Q : Nat → Prop) (cb : Nat) : Prop := ∃ b blk c, Q b ∧ h.get b = .live blk ∧ ρ0 b = some c ∧ blk.solid c ∧ c.1 = cb
/-- In this world the values are a value of the shape. -/
def Views (w B : World) (F : Nat → Prop) (s : Sh) (y : s.T) (cs : List Value) : Prop :=
  ∃ c : List (Nat × Nat × Nat), c.length = s.ne ∧ ∀ (ρ : Ren) (next : Nat), ρ.base = B → (∀ (i : Nat) (d : Nat × Nat × Nat), c[i]? = some d → ρ (next + i) = some d) →
    VRs ρ (s.cells y next) cs ∧ ∀ (i : Nat) (blk : Blk), (s.ents y)[i]? = some (.live blk) → ∃ d : Nat × Nat × Nat, c[i]? = some d ∧ CellsAt ρ w d.1 d.2.1 blk.cells ∧ (0 < blk.cells.len → F d.1)
def ViewsL (w B : World) (F : Nat → Prop) (l : List Sh) (y : Sh.Ts l) (cs : List Value) : Prop :=
  ∃ c : List (Nat × Nat × Nat), c.length = Sh.nes l ∧ ∀ (ρ : Ren) (next : Nat), ρ.base = B → (∀ (i : Nat) (d : Nat × Nat × Nat), c[i]? = some d → ρ (next + i) = some d) →
    VRs ρ (Sh.cellss l y next) cs ∧ ∀ (i : Nat) (blk : Blk), (Sh.entss l y)[i]? = some (.live blk) → ∃ d : Nat × Nat × Nat, c[i]? = some d ∧ CellsAt ρ w d.1 d.2.1 blk.cells ∧ (0 < blk.cells.len → F d.1)

theorem ViewsL.nil {w B : World} {F : Nat → Prop} : ViewsL w B F [] () [] := ⟨[], rfl, fun ρ next _ _ => ⟨by simp [Sh.cellss, VRs], fun i blk h => by simp [Sh.entss] at h⟩⟩
theorem ViewsL.cons {w B : World} {F : Nat → Prop} {s : Sh} {l : List Sh} {y : s.T} {z : Sh.Ts l} {c1 c2 : List Value} (h1 : Views w B F s y c1) (h2 : ViewsL w B F l z c2) : ViewsL w B F (s :: l) (y, z) (c1 ++ c2) := by
  obtain ⟨d1, l1, f1⟩ := h1
  obtain ⟨d2, l2, f2⟩ := h2
  refine ⟨d1 ++ d2, by simp [Sh.nes, l1, l2], fun ρ next hb hρ => ?_⟩
  obtain ⟨a1, a2⟩ := f1 ρ next hb fun i d hi => hρ i d (by rw [List.getElem?_append_left]; exact hi; exact (List.getElem?_eq_some_iff.1 hi).1)
  obtain ⟨b1, b2⟩ := f2 ρ (next + s.ne) hb fun i d hi => by
    have := hρ (s.ne + i) d (by rw [List.getElem?_append_right (by omega), l1, Nat.add_sub_cancel_left]; exact hi)
    rw [Nat.add_assoc]; exact this
  refine ⟨by simp only [Sh.cellss]; exact a1.append b1, fun i blk hi => ?_⟩
  simp only [Sh.entss] at hi
  have el := ents_length s y
  by_cases hil : i < s.ne
  · rw [List.getElem?_append_left (by omega)] at hi
    obtain ⟨d, h3, h4⟩ := a2 i blk hi
    exact ⟨d, by rw [List.getElem?_append_left (by omega)]; exact h3, h4⟩
  · rw [List.getElem?_append_right (by omega), el] at hi
    obtain ⟨d, h3, h4⟩ := b2 (i - s.ne) blk hi
    exact ⟨d, by rw [List.getElem?_append_right (by omega), l1]; exact h3, h4⟩

section
variable {ρ0 : Ren} {h : Heap} {w : World} {H : Nat → Ent} {Q : Nat → Prop}

/-- A slice, seen: nothing, or there it lies. -/
theorem viewSl_ok (hs : Sim ρ0 h w) {e : Sh} {a : AV} {cv : Value} (hv : VR ρ0 a cv) {y : List e.T} {bs : List Nat} {c : Bool} (hvw : viewSl H e a = some (y, bs, c)) (hH : ∀ b ∈ bs, h.get b = H b) (hQ : ∀ b ∈ bs, Q b) (hc : c = true) :
    (∃ b o c', cv = .slice (some ⟨b, o, none⟩) y.length c' ∧ y.length ≤ c' ∧ (∀ (j : Nat) (v : Value), (e.flatl y)[j]? = some v → w.cell? ⟨b, o + j, none⟩ = some v) ∧ (0 < (e.flatl y).length → From ρ0 h Q b)) ∨ (y = [] ∧ ∃ a, cv = .slice a 0 0) := by
  unfold viewSl at hvw
  split at hvw
  · rename_i b o n cp
    split at hvw
    case h_2 => cases hvw
    rename_i blk hblk
    split at hvw
    case h_2 => cases hvw
    rename_i y' c' hp
    injection hvw with hvw; injection hvw with e1 e2; injection e2 with e2 e3
    subst e1; subst e2; subst e3
    have hb : h.get b = .live blk := by rw [hH b (by simp)]; exact hblk
    rcases hv.slc_cases with ⟨cb, co, cc, c', h1, h2, h3⟩ | ⟨h1, a, h2⟩
    · obtain ⟨k1, _, _, k2⟩ := partsOf_ok (hs.cells b blk _ hb h1) hp hc
      refine .inl ⟨cb, co + o, c', by rw [k1]; exact h3, by omega, k2, fun hl => ⟨b, blk, _, hQ b (by simp), hb, h1, .inl (partsOf_len hp hl), rfl⟩⟩
    · obtain ⟨d, hd⟩ := hs.some_ b blk hb
      obtain ⟨k1, _, _, k2⟩ := partsOf_ok (hs.cells b blk _ hb hd) hp hc
      exact .inr ⟨List.length_eq_zero_iff.1 (by omega), a, h2⟩
  · simp only [VR] at hv
    injection hvw with hvw; injection hvw with e1 e2; subst e1
    exact .inr ⟨rfl, none, hv⟩
  · cases hvw

theorem RowIn.of_base (hs : Sim ρ0 h w) {cv : Value} {r : List Value} (hr : RowIn ρ0.base cv r) : RowIn w cv r := by
  rcases hr with hr | ⟨b, o, c, h1, h2, h3⟩
  · exact .inl hr
  · refine .inr ⟨b, o, c, h1, h2, fun j v hj => ?_⟩
    have h4 := h3 j v hj
    have hlt : b < ρ0.base.heap.size := by
      rcases Nat.lt_or_ge b ρ0.base.heap.size with h' | h'
      · exact h'
      · simp [World.cell?, Array.getElem?_eq_none h'] at h4
    rw [← h4]
    simp [World.cell?, hs.old b hlt]

theorem Views.flat0 {s : Sh} {cs : List Value} {y : s.T} (hn : s.ne = 0) (hv : ∀ (ρ : Ren) next, VRs ρ (s.cells y next) cs) : Views w ρ0.base (From ρ0 h Q) s y cs :=
  ⟨[], hn.symm, fun ρ next _ _ => ⟨hv ρ next, fun i blk hi => by
    have := ents_length s y
    rw [hn] at this
    rw [List.length_eq_zero_iff.1 this] at hi
    simp at hi⟩⟩

theorem VRs.split {ρ : Ren} : ∀ (as bs : List AV) (vs : List Value), VRs ρ (as ++ bs) vs → ∃ v1 v2, vs = v1 ++ v2 ∧ VRs ρ as v1 ∧ VRs ρ bs v2
  | [], bs, vs, h => ⟨[], vs, rfl, by simp [VRs], h⟩
  | a :: as, bs, [], h => by simp [VRs] at h
  | a :: as, bs, v :: vs, h => by
    simp only [List.cons_append, VRs] at h
    obtain ⟨v1, v2, rfl, h1, h2⟩ := VRs.split as bs vs h.2
    exact ⟨v :: v1, v2, rfl, by simp only [VRs]; exact ⟨h.1, h1⟩, h2⟩

theorem enc_view {s : Sh} {y : s.T} {vs : List Value} (hv : VRs ρ0 ((s.enc y).map .val) vs) : vs = s.enc y := by
  have key : ∀ (l u : List Value), VRs ρ0 (l.map .val) u → u = l := by
    intro l
    induction l with
    | nil => intro u h; cases u with
      | nil => rfl
      | cons => simp [VRs] at h
    | cons a l ih => intro u h; cases u with
      | nil => simp [VRs] at h
      | cons b u => simp only [List.map_cons, VRs, VR] at h; rw [h.1, ih u h.2]
  exact key _ _ hv

mutual
theorem viewC_ok (hs : Sim ρ0 h w) : ∀ (s : Sh) (cs : List AV) (cvs : List Value), VRs ρ0 cs cvs → ∀ (y : s.T) (bs : List Nat) (c : Bool) (rest : List AV), viewC H s cs = some (y, bs, c, rest) → (∀ b ∈ bs, h.get b = H b) → (∀ b ∈ bs, Q b) → c = true →
    ∃ v1 v2, cvs = v1 ++ v2 ∧ VRs ρ0 rest v2 ∧ Views w ρ0.base (From ρ0 h Q) s y v1
  | .int k, cs, cvs, hv, y, bs, c, rest, hvw, hH, hQ, hc => by
    simp only [viewC] at hvw
    split at hvw
    case h_2 => cases hvw
    rename_i y' r hd
    injection hvw with hvw; injection hvw with e1 e2; injection e2 with e2 e3; injection e3 with e3 e4
    subst e1; subst e4
    obtain ⟨v1, v2, g1, g2, g3⟩ := VRs.split _ _ _ ((dec_ok _ _ _ _ hd).2 ▸ hv)
    exact ⟨v1, v2, g1, g3, .flat0 rfl fun ρ next => by rw [enc_view g2]; simp [Sh.cells, Sh.enc, VRs, VR]⟩
  | .bool, cs, cvs, hv, y, bs, c, rest, hvw, hH, hQ, hc => by
    simp only [viewC] at hvw
    split at hvw
    case h_2 => cases hvw
    rename_i y' r hd
    injection hvw with hvw; injection hvw with e1 e2; injection e2 with e2 e3; injection e3 with e3 e4
    subst e1; subst e4
    obtain ⟨v1, v2, g1, g2, g3⟩ := VRs.split _ _ _ ((dec_ok _ _ _ _ hd).2 ▸ hv)
    exact ⟨v1, v2, g1, g3, .flat0 rfl fun ρ next => by rw [enc_view g2]; simp [Sh.cells, Sh.enc, VRs, VR]⟩
  | .str, cs, cvs, hv, y, bs, c, rest, hvw, hH, hQ, hc => by
    simp only [viewC] at hvw
    split at hvw
    case h_2 => cases hvw
    rename_i y' r hd
    injection hvw with hvw; injection hvw with e1 e2; injection e2 with e2 e3; injection e3 with e3 e4
    subst e1; subst e4
    obtain ⟨v1, v2, g1, g2, g3⟩ := VRs.split _ _ _ ((dec_ok _ _ _ _ hd).2 ▸ hv)
    exact ⟨v1, v2, g1, g3, .flat0 rfl fun ρ next => by rw [enc_view g2]; simp [Sh.cells, Sh.enc, VRs, VR]⟩
  | .st l, cs, cvs, hv, y, bs, c, rest, hvw, hH, hQ, hc => by
    simp only [viewC] at hvw
    obtain ⟨v1, v2, g1, g2, g3⟩ := viewCs_ok hs l cs cvs hv y bs c rest hvw hH hQ hc
    exact ⟨v1, v2, g1, g2, g3⟩
  | .sl e, [], cvs, hv, y, bs, c, rest, hvw, hH, hQ, hc => by simp [viewC] at hvw
  | .sl e, a :: r, [], hv, y, bs, c, rest, hvw, hH, hQ, hc => by simp [VRs] at hv
  | .sl e, a :: r, cv :: cvs, hv, y, bs, c, rest, hvw, hH, hQ, hc => by
    simp only [VRs] at hv
    simp only [viewC] at hvw
    split at hvw
    case h_2 => cases hvw
    rename_i y' b' c' hsl
    injection hvw with hvw; injection hvw with e1 e2; injection e2 with e2 e3; injection e3 with e3 e4
    subst e1; subst e2; subst e3; subst e4
    refine ⟨[cv], cvs, rfl, hv.2, ?_⟩
    rcases viewSl_ok hs hv.1 hsl hH hQ hc with ⟨b, o, c', h2, h3, h4, h5⟩ | ⟨h2, a, h3⟩
    · refine ⟨[(b, o, 0)], rfl, fun ρ next hb hρ => ⟨?_, fun i blk hi => ?_⟩⟩
      · simp only [Sh.cells, VRs, VR]
        exact ⟨.inl ⟨b, o, 0, c', by simpa using hρ 0 _ rfl, h3, h2⟩, trivial⟩
      · simp only [Sh.ents] at hi
        cases i with
        | succ i => simp at hi
        | zero =>
          simp at hi; subst hi
          exact ⟨(b, o, 0), rfl, h4, h5⟩
    · subst h2
      refine ⟨[(0, 0, 0)], rfl, fun ρ next hb hρ => ⟨?_, fun i blk hi => ?_⟩⟩
      · simp only [Sh.cells, VRs, VR]
        exact ⟨.inr ⟨rfl, a, h3⟩, trivial⟩
      · simp only [Sh.ents] at hi
        cases i with
        | succ i => simp at hi
        | zero =>
          simp at hi; subst hi
          exact ⟨(0, 0, 0), rfl, fun j v hj => by simp [Sh.flatl] at hj, fun hl => by simp [Cells.len, Sh.flatl] at hl⟩
  | .rows e, [], cvs, hv, y, bs, c, rest, hvw, hH, hQ, hc => by simp [viewC] at hvw
  | .rows e, a :: r, [], hv, y, bs, c, rest, hvw, hH, hQ, hc => by simp [VRs] at hv
  | .rows e, a :: r, cv :: cvs, hv, y, bs, c, rest, hvw, hH, hQ, hc => by
    simp only [VRs] at hv
    simp only [viewC] at hvw
    split at hvw
    case h_2 => cases hvw
    rename_i y' b' c' hrw
    injection hvw with hvw; injection hvw with e1 e2; injection e2 with e2 e3; injection e3 with e3 e4
    subst e1; subst e2; subst e3; subst e4
    refine ⟨[cv], cvs, rfl, hv.2, ?_⟩
    have nilcase : y' = [] → (∃ a, cv = .slice a 0 0) → Views w ρ0.base (From ρ0 h Q) (.rows e) y' [cv] := by
      rintro rfl ⟨a, h3⟩
      refine ⟨[(0, 0, 0)], rfl, fun ρ next hb hρ => ⟨?_, fun i blk hi => ?_⟩⟩
      · simp only [Sh.cells, VRs, VR]
        exact ⟨.inr ⟨rfl, a, h3⟩, trivial⟩
      · simp only [Sh.ents] at hi
        cases i with
        | succ i => simp at hi
        | zero =>
          simp at hi; subst hi
          exact ⟨(0, 0, 0), rfl, fun j v hj => by simp at hj, fun hl => by simp [Cells.len] at hl⟩
    have somecase : ∀ cb o c', cv = .slice (some ⟨cb, o, none⟩) y'.length c' → y'.length ≤ c' → (∀ (j : Nat) (r : List e.T), y'[j]? = some r → ∃ cv, w.cell? ⟨cb, o + j, none⟩ = some cv ∧ RowIn ρ0.base cv (e.flatl r)) → (0 < y'.length → From ρ0 h Q cb) → Views w ρ0.base (From ρ0 h Q) (.rows e) y' [cv] := by
      intro cb o c' h2 h3 h4 h9
      refine ⟨[(cb, o, 0)], rfl, fun ρ next hb hρ => ⟨?_, fun i blk hi => ?_⟩⟩
      · simp only [Sh.cells, VRs, VR]
        exact ⟨.inl ⟨cb, o, 0, c', by simpa using hρ 0 _ rfl, h3, h2⟩, trivial⟩
      · simp only [Sh.ents] at hi
        cases i with
        | succ i => simp at hi
        | zero =>
          simp at hi; subst hi
          refine ⟨(cb, o, 0), rfl, fun j r hj => ?_, h9⟩
          obtain ⟨u, h5, h6⟩ := h4 j r hj
          exact ⟨u, h5, by rw [hb]; exact h6⟩
    unfold viewRw at hrw
    split at hrw
    · rename_i b o n cp
      split at hrw
      case isFalse => cases hrw
      rename_i hfw
      split at hrw
      case h_2 => cases hrw
      rename_i blk hblk
      split at hrw
      · rename_i e' l hcells
        split at hrw
        case h_2 => cases hrw
        rename_i hse _
        obtain ⟨hse⟩ := hse
        subst hse
        have two : ∃ y0, (o = 0 ∧ y0 = l ∧ n = l.length ∧ y' = y0 ∧ b' = [b]) ∨ (o + n ≤ l.length ∧ y' = cut l o n ∧ b' = [b]) := by
          split at hrw
          · injection hrw with hrw; injection hrw with e1 e2; injection e2 with e2 e3
            exact ⟨l, .inl ⟨rfl, rfl, by subst e3; simpa using hc, e1.symm, e2.symm⟩⟩
          · injection hrw with hrw; injection hrw with e1 e2; injection e2 with e2 e3
            exact ⟨l, .inr ⟨by subst e3; simpa using hc, e1.symm, e2.symm⟩⟩
        obtain ⟨hc, rfl, rfl⟩ : o + n ≤ l.length ∧ y' = cut l o n ∧ b' = [b] := by
          obtain ⟨y0, ⟨k1, k2, k3, k4, k5⟩ | k⟩ := two
          · subst k1; subst k2; subst k3; exact ⟨by omega, by rw [k4, cut_all], k5⟩
          · exact k
        have hb : h.get b = .live blk := by rw [hH b (by simp)]; exact hblk
        have hlen := cut_length hc
        rcases hv.1.slc_cases with ⟨cb, co, cc, c', h1, h2, h3⟩ | ⟨h1, a, h2⟩
        · refine somecase cb (co + o) c' (by rw [hlen]; exact h3) (by rw [hlen]; exact h2) (fun j r hj => ?_) fun hl => ⟨b, blk, _, hQ b (by simp), hb, h1, .inl (by rw [hcells]; show 0 < l.length; have := hl; rw [hlen] at this; omega), rfl⟩
          have hca := hs.cells b blk _ hb h1
          rw [hcells] at hca
          have hj2 : l[o + j]? = some r := by
            simp only [cut, List.getElem?_take] at hj
            split at hj
            · rwa [List.getElem?_drop] at hj
            · cases hj
          obtain ⟨u, h5, h6⟩ := hca _ r hj2
          exact ⟨u, by rw [Nat.add_assoc]; exact h5, h6⟩
        · exact nilcase (List.length_eq_zero_iff.1 (by rw [hlen]; exact h1)) ⟨a, h2⟩
      · cases hrw
    · simp only [VR] at hv
      split at hrw
      case isFalse => cases hrw
      injection hrw with hrw; injection hrw with e1 e2; subst e1
      exact nilcase rfl ⟨none, hv.1⟩
    · cases hrw
theorem viewCs_ok (hs : Sim ρ0 h w) : ∀ (l : List Sh) (cs : List AV) (cvs : List Value), VRs ρ0 cs cvs → ∀ (y : Sh.Ts l) (bs : List Nat) (c : Bool) (rest : List AV), viewCs H l cs = some (y, bs, c, rest) → (∀ b ∈ bs, h.get b = H b) → (∀ b ∈ bs, Q b) → c = true →
    ∃ v1 v2, cvs = v1 ++ v2 ∧ VRs ρ0 rest v2 ∧ ViewsL w ρ0.base (From ρ0 h Q) l y v1
  | [], cs, cvs, hv, y, bs, c, rest, hvw, hH, hQ, hc => by
    simp only [viewCs] at hvw
    injection hvw with hvw; injection hvw with e1 e2; injection e2 with e2 e3; injection e3 with e3 e4
    subst e4
    exact ⟨[], cvs, rfl, hv, .nil⟩
  | s :: l, cs, cvs, hv, y, bs, c, rest, hvw, hH, hQ, hc => by
    simp only [viewCs] at hvw
    split at hvw
    case h_2 => cases hvw
    rename_i y0 b0 c0 r0 h0
    split at hvw
    case h_2 => cases hvw
    rename_i z b1 c1 r1 h1
    injection hvw with hvw; injection hvw with e1 e2; injection e2 with e2 e3; injection e3 with e3 e4
    subst e1; subst e2; subst e3; subst e4
    simp only [Bool.and_eq_true] at hc
    obtain ⟨v1, v2, rfl, g2, g3⟩ := viewC_ok hs s cs cvs hv y0 b0 c0 r0 h0 (fun b hb => hH b (List.mem_append.2 (.inl hb))) (fun b hb => hQ b (List.mem_append.2 (.inl hb))) hc.1
    obtain ⟨v3, v4, rfl, g4, g5⟩ := viewCs_ok hs l r0 v2 g2 z b1 c1 r1 h1 (fun b hb => hH b (List.mem_append.2 (.inr hb))) (fun b hb => hQ b (List.mem_append.2 (.inr hb))) hc.2
    exact ⟨v1 ++ v3, v4, by simp, g4, ViewsL.cons g3 g5⟩
end
end

end Go.Ab
