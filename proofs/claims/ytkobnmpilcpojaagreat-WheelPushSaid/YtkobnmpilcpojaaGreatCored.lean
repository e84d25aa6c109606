/- An engine that names no program: what code does to what memory shows, evaluated over abstract values and an abstract heap, and that it is so. -/
import Derived.Test.YtkobnmpilcpojaaGreatCorec
import Derived.Laws.Externs
set_option linter.unusedVariables false
set_option linter.unusedSimpArgs false
namespace Go.Ab
mutual
def Sh.ents : (s : Sh) → s.T → List Ent
  | .int _, _ => []
  | .bool, _ => []
  | .str, _ => []
  | .st l, x => Sh.entss l x
  | .sl e, l => [.live { cells := .arr e l, rw := false }]
  | .rows e, l => [.live { cells := .arrs e l, rw := false }]
def Sh.entss : (l : List Sh) → Sh.Ts l → List Ent
  | [], _ => []
  | s :: l, x => Sh.ents s x.1 ++ Sh.entss l x.2
end
mutual
def Sh.ne : Sh → Nat
  | .int _ => 0
  | .bool => 0
  | .str => 0
  | .st l => Sh.nes l
  | .sl _ => 1
  | .rows _ => 1
def Sh.nes : List Sh → Nat
  | [] => 0
  | s :: l => Sh.ne s + Sh.nes l
end
mutual
def Sh.cells : (s : Sh) → s.T → Nat → List AV
  | .int k, x, _ => [.val (.int k x)]
  | .bool, b, _ => [.val (.bool b)]
  | .str, s, _ => [.val (.string s)]
  | .st l, x, n => Sh.cellss l x n
  | .sl _, l, n => [.slc n 0 l.length .low]
  | .rows _, l, n => [.slc n 0 l.length .low]
def Sh.cellss : (l : List Sh) → Sh.Ts l → Nat → List AV
  | [], _, _ => []
  | s :: l, x, n => Sh.cells s x.1 n ++ Sh.cellss l x.2 (n + Sh.ne s)
end
mutual
theorem ents_length : ∀ (s : Sh) (x : s.T), (s.ents x).length = s.ne
  | .int _, _ => rfl
  | .bool, _ => rfl
  | .str, _ => rfl
  | .st l, x => by simpa [Sh.ents, Sh.ne] using entss_length l x
  | .sl _, _ => rfl
  | .rows _, _ => rfl
theorem entss_length : ∀ (l : List Sh) (x : Sh.Ts l), (Sh.entss l x).length = Sh.nes l
  | [], _ => rfl
  | s :: l, x => by simp [Sh.entss, Sh.nes, ents_length s x.1, entss_length l x.2]
end
mutual
theorem ents_live : ∀ (s : Sh) (y : s.T) (e : Ent), e ∈ s.ents y → ∃ blk : Blk, e = .live blk ∧ blk.rw = false ∧ (∀ l, blk.cells ≠ .lit l)
  | .int _, _, e, h => by simp [Sh.ents] at h
  | .bool, _, e, h => by simp [Sh.ents] at h
  | .str, _, e, h => by simp [Sh.ents] at h
  | .st l, y, e, h => entss_live l y e (by simpa [Sh.ents] using h)
  | .sl _, y, e, h => by simp [Sh.ents] at h; subst h; exact ⟨_, rfl, rfl, by simp⟩
  | .rows _, y, e, h => by simp [Sh.ents] at h; subst h; exact ⟨_, rfl, rfl, by simp⟩
theorem entss_live : ∀ (l : List Sh) (y : Sh.Ts l) (e : Ent), e ∈ Sh.entss l y → ∃ blk : Blk, e = .live blk ∧ blk.rw = false ∧ (∀ l, blk.cells ≠ .lit l)
  | [], _, e, h => by simp [Sh.entss] at h
  | s :: l, y, e, h => by
    simp only [Sh.entss, List.mem_append] at h
    rcases h with h | h
    · exact ents_live s y.1 e h
    · exact entss_live l y.2 e h
end
def Sh.arg : (s : Sh) → s.T → Nat → AV
  | .int k, x, _ => .val (.int k x)
  | .bool, b, _ => .val (.bool b)
  | .str, s, _ => .val (.string s)
  | .st l, x, n => .agg (Sh.cellss l x n)
  | .sl _, l, n => .slc n 0 l.length .low
  | .rows _, l, n => .slc n 0 l.length .low
def Sh.args : (l : List Sh) → Sh.Ts l → Nat → List AV
  | [], _, _ => []
  | s :: l, x, n => s.arg x.1 n :: Sh.args l x.2 (n + s.ne)
end Go.Ab
namespace Go.Ab
def partsOf (s : Sh) (cp : Cap) (cs : Cells) (o n : Nat) : Option (List s.T × Bool) :=
  if s.flat = true ∧ 0 < s.w then
    match cs with
    | .arr s' l => match Sh.same s' s with
      | some h => (match cp with
        | .part => (if s.w = 1 then some (cut (h.down ▸ l) o n, decide (o + n ≤ l.length)) else match o with
          | 0 => some (cut (h.down ▸ l) 0 n, decide (n ≤ l.length))
          | _ + 1 => none)
        | _ => (match o with
          | 0 => some (h.down ▸ l, decide (n = l.length))
          | _ + 1 => (match eltAt s.w o 0 with
            | some k => some (cut (h.down ▸ l) k n, decide (k + n ≤ l.length))
            | none => none)))
      | none => none
    | .lit l => (match decN s n (l.drop o) with
      | some y => some (y, true)
      | none => none)
    | _ => none
  else none
theorem partsOf_ok {cp : Cap} {ρ : Ren} {w : World} {cb co : Nat} {cs : Cells} (hc : CellsAt ρ w cb co cs) {s : Sh} {o n : Nat} {y : List s.T} {c : Bool} (h : partsOf s cp cs o n = some (y, c)) (hb : c = true) :
    y.length = n ∧ s.flat = true ∧ 0 < s.w ∧ ∀ (j : Nat) (v : Value), (s.flatl y)[j]? = some v → w.cell? ⟨cb, co + o + j, none⟩ = some v := by
  unfold partsOf at h
  split at h
  case isFalse => cases h
  rename_i hfw
  obtain ⟨hf, hw⟩ := hfw
  split at h
  · rename_i s' l
    split at h
    case h_2 => cases h
    rename_i hs _
    obtain ⟨hs⟩ := hs
    subst hs
    split at h
    · split at h
      · rename_i hw1
        injection h with h; injection h with h1 h2; subst h1; subst h2
        have hb : o + n ≤ l.length := by simpa using hb
        refine ⟨cut_length hb, hf, hw, fun j v hj => ?_⟩
        have h3 := flatl_take_get _ _ hj
        rw [flatl_drop hf, List.getElem?_drop, hw1, Nat.mul_one] at h3
        rw [Nat.add_assoc]; exact hc _ _ h3
      · split at h
        case h_2 => cases h
        injection h with h; injection h with h1 h2; subst h1; subst h2
        have hb : 0 + n ≤ l.length := by simpa using hb
        refine ⟨cut_length hb, hf, hw, fun j v hj => ?_⟩
        have h3 := flatl_take_get _ _ hj
        rw [flatl_drop hf, List.getElem?_drop, Nat.zero_mul, Nat.zero_add] at h3
        rw [Nat.add_zero]; exact hc _ _ h3
    split at h
    · injection h with h; injection h with h1 h2; subst h1; subst h2
      have hb : n = l.length := by simpa using hb
      exact ⟨hb.symm, hf, hw, fun j v hj => by rw [Nat.add_zero]; exact hc j v hj⟩
    rename_i o'
    split at h
    case h_2 => cases h
    rename_i k hk
    injection h with h; injection h with h1 h2; subst h1; subst h2
    have hb : k + n ≤ l.length := by simpa using hb
    obtain ⟨hk1, _⟩ := eltAt_some hk
    refine ⟨cut_length hb, hf, hw, fun j v hj => ?_⟩
    have h3 := flatl_take_get _ _ hj
    rw [flatl_drop hf, List.getElem?_drop] at h3
    have := hc _ _ h3
    rw [show co + (o' + 1) + j = co + (k * s'.w + j) by omega]; exact this
  · rename_i l
    split at h
    case h_2 => cases h
    rename_i y' hy
    injection h with h; injection h with h1 h2; subst h1
    obtain ⟨h3, r, h4⟩ := decN_ok n _ _ hy
    refine ⟨h3, hf, hw, fun j v hj => ?_⟩
    have h5 : l[o + j]? = some (.val v) := by
      have : (l.drop o)[j]? = some (.val v) := by
        rw [h4, List.getElem?_append_left (by simp; exact (List.getElem?_eq_some_iff.1 hj).1)]
        simp [hj]
      rwa [List.getElem?_drop] at this
    obtain ⟨cv, h6, h7⟩ := hc _ _ h5
    simp only [VR] at h7; subst h7
    rw [Nat.add_assoc]; exact h6
  · cases h
theorem partsOf_len {cp : Cap} {s : Sh} {cs : Cells} {o n : Nat} {y : List s.T} {c : Bool} (h : partsOf s cp cs o n = some (y, c)) (hl : 0 < (s.flatl y).length) : 0 < cs.len := by
  unfold partsOf at h
  split at h
  case isFalse => cases h
  rename_i hfw
  split at h
  · rename_i s' l
    split at h
    case h_2 => cases h
    rename_i hs _
    obtain ⟨hs⟩ := hs
    subst hs
    have key : ∀ k, 0 < (s'.flatl (cut l k n)).length → 0 < (s'.flatl l).length := fun k hl => by
      have h3 : (s'.flatl (cut l k n)).length ≠ 0 := Nat.pos_iff_ne_zero.1 hl
      rw [flatl_length s' hfw.1] at h3
      have h4 : (cut l k n).length ≠ 0 := fun e => h3 (by rw [e]; simp)
      have h5 : l.length ≠ 0 := fun e => h4 (by simp [cut, List.length_eq_zero_iff.1 e])
      rw [flatl_length s' hfw.1]
      exact Nat.mul_pos (by omega) hfw.2
    split at h
    · split at h
      · injection h with h; injection h with h1 h2; subst h1; exact key _ hl
      · split at h
        case h_2 => cases h
        injection h with h; injection h with h1 h2; subst h1; exact key _ hl
    split at h
    · injection h with h; injection h with h1 h2; subst h1; exact hl
    · split at h
      case h_2 => cases h
      rename_i k hk
      injection h with h; injection h with h1 h2; subst h1
      have h3 : (s'.flatl (cut l k n)).length ≠ 0 := Nat.pos_iff_ne_zero.1 hl
      rw [flatl_length s' hfw.1] at h3
      have h4 : (cut l k n).length ≠ 0 := fun e => h3 (by rw [e]; simp)
      have h5 : l.length ≠ 0 := fun e => h4 (by simp [cut, List.length_eq_zero_iff.1 e])
      show 0 < (s'.flatl l).length
      rw [flatl_length s' hfw.1]
      exact Nat.mul_pos (by omega) hfw.2
  · rename_i l
    split at h
    case h_2 => cases h
    rename_i y' hy
    injection h with h; injection h with h1 h2; subst h1
    obtain ⟨h3, r, h4⟩ := decN_ok n _ _ hy
    have := congrArg List.length h4
    simp at this
    show 0 < l.length
    omega
  · cases h
def viewSl (H : Nat → Ent) (e : Sh) : AV → Option (List e.T × List Nat × Bool)
  | .slc b o n cp => match H b with
    | .live blk => (match partsOf e cp blk.cells o n with
      | some (y, c) => some (y, [b], c)
      | none => none)
    | _ => none
  | .val (.slice none 0 0) => some ([], [], true)
  | _ => none
def viewRw (H : Nat → Ent) (e : Sh) : AV → Option (List (List e.T) × List Nat × Bool)
  | .slc b o n _ => if e.flat = true ∧ e.w = 1 then (match H b with
    | .live blk => (match blk.cells with
      | .arrs e' l => (match Sh.same e' e with
        | some h => (match o with
          | 0 => some (h.down ▸ l, [b], decide (n = l.length))
          | o' + 1 => some (cut (h.down ▸ l) (o' + 1) n, [b], decide (o' + 1 + n ≤ l.length)))
        | none => none)
      | _ => none)
    | _ => none) else none
  | .val (.slice none 0 0) => if e.flat = true ∧ e.w = 1 then some ([], [], true) else none
  | _ => none
mutual
def viewC (H : Nat → Ent) : (s : Sh) → List AV → Option (s.T × List Nat × Bool × List AV)
  | .int k, cs => (match Sh.dec (.int k) cs with
    | some (y, r) => some (y, [], true, r)
    | none => none)
  | .bool, cs => (match Sh.dec .bool cs with
    | some (y, r) => some (y, [], true, r)
    | none => none)
  | .str, cs => (match Sh.dec .str cs with
    | some (y, r) => some (y, [], true, r)
    | none => none)
  | .st l, cs => viewCs H l cs
  | .sl e, a :: r => (match viewSl H e a with
    | some (y, b, c) => some (y, b, c, r)
    | none => none)
  | .rows e, a :: r => (match viewRw H e a with
    | some (y, b, c) => some (y, b, c, r)
    | none => none)
  | _, _ => none
def viewCs (H : Nat → Ent) : (l : List Sh) → List AV → Option (Sh.Ts l × List Nat × Bool × List AV)
  | [], cs => some ((), [], true, cs)
  | s :: l, cs => match viewC H s cs with
    | some (y, b, c, r) => (match viewCs H l r with
      | some (z, b', c', r') => some ((y, z), b ++ b', c && c', r')
      | none => none)
    | none => none
end
def From (ρ0 : Ren) (h : Heap) (Q : Nat → Prop) (cb : Nat) : Prop := ∃ b blk c, Q b ∧ h.get b = .live blk ∧ ρ0 b = some c ∧ blk.solid c ∧ c.1 = cb
def Views (w B : World) (F : Nat → Prop) (s : Sh) (y : s.T) (cs : List Value) : Prop :=
  ∃ c : List (Nat × Nat × Nat), c.length = s.ne ∧ ∀ (ρ : Ren) (next : Nat), ρ.base = B → (∀ (i : Nat) (d : Nat × Nat × Nat), c[i]? = some d → ρ (next + i) = some d) →
    VRs ρ (s.cells y next) cs ∧ ∀ (i : Nat) (blk : Blk), (s.ents y)[i]? = some (.live blk) → ∃ d : Nat × Nat × Nat, c[i]? = some d ∧ CellsAt ρ w d.1 d.2.1 blk.cells ∧ (0 < blk.cells.len → F d.1)
def ViewsL (w B : World) (F : Nat → Prop) (l : List Sh) (y : Sh.Ts l) (cs : List Value) : Prop :=
  ∃ c : List (Nat × Nat × Nat), c.length = Sh.nes l ∧ ∀ (ρ : Ren) (next : Nat), ρ.base = B → (∀ (i : Nat) (d : Nat × Nat × Nat), c[i]? = some d → ρ (next + i) = some d) →
    VRs ρ (Sh.cellss l y next) cs ∧ ∀ (i : Nat) (blk : Blk), (Sh.entss l y)[i]? = some (.live blk) → ∃ d : Nat × Nat × Nat, c[i]? = some d ∧ CellsAt ρ w d.1 d.2.1 blk.cells ∧ (0 < blk.cells.len → F d.1)
theorem ViewsL.nil {w B : World} {F : Nat → Prop} : ViewsL w B F [] () [] := ⟨[], rfl, fun ρ next _ _ => ⟨by simp [Sh.cellss, VRs], fun i blk h => by simp [Sh.entss] at h⟩⟩
theorem ViewsL.cons {w B : World} {F : Nat → Prop} {s : Sh} {l : List Sh} {y : s.T} {z : Sh.Ts l} {c1 c2 : List Value} (h1 : Views w B F s y c1) (h2 : ViewsL w B F l z c2) : ViewsL w B F (s :: l) (y, z) (c1 ++ c2) := by
  obtain ⟨d1, l1, f1⟩ := h1
  obtain ⟨d2, l2, f2⟩ := h2
  refine ⟨d1 ++ d2, by simp [Sh.nes, l1, l2], fun ρ next hb hρ => ?_⟩
  obtain ⟨a1, a2⟩ := f1 ρ next hb fun i d hi => hρ i d (by rw [List.getElem?_append_left]; exact hi; exact (List.getElem?_eq_some_iff.1 hi).1)
  obtain ⟨b1, b2⟩ := f2 ρ (next + s.ne) hb fun i d hi => by
    have := hρ (s.ne + i) d (by rw [List.getElem?_append_right (by omega), l1, Nat.add_sub_cancel_left]; exact hi)
    rw [Nat.add_assoc]; exact this
  refine ⟨by simp only [Sh.cellss]; exact a1.append b1, fun i blk hi => ?_⟩
  simp only [Sh.entss] at hi
  have el := ents_length s y
  by_cases hil : i < s.ne
  · rw [List.getElem?_append_left (by omega)] at hi
    obtain ⟨d, h3, h4⟩ := a2 i blk hi
    exact ⟨d, by rw [List.getElem?_append_left (by omega)]; exact h3, h4⟩
  · rw [List.getElem?_append_right (by omega), el] at hi
    obtain ⟨d, h3, h4⟩ := b2 (i - s.ne) blk hi
    exact ⟨d, by rw [List.getElem?_append_right (by omega), l1]; exact h3, h4⟩
section
variable {ρ0 : Ren} {h : Heap} {w : World} {H : Nat → Ent} {Q : Nat → Prop}
theorem viewSl_ok (hs : Sim ρ0 h w) {e : Sh} {a : AV} {cv : Value} (hv : VR ρ0 a cv) {y : List e.T} {bs : List Nat} {c : Bool} (hvw : viewSl H e a = some (y, bs, c)) (hH : ∀ b ∈ bs, h.get b = H b) (hQ : ∀ b ∈ bs, Q b) (hc : c = true) :
    (∃ b o c', cv = .slice (some ⟨b, o, none⟩) y.length c' ∧ y.length ≤ c' ∧ (∀ (j : Nat) (v : Value), (e.flatl y)[j]? = some v → w.cell? ⟨b, o + j, none⟩ = some v) ∧ (0 < (e.flatl y).length → From ρ0 h Q b)) ∨ (y = [] ∧ ∃ a, cv = .slice a 0 0) := by
  unfold viewSl at hvw
  split at hvw
  · rename_i b o n cp
    split at hvw
    case h_2 => cases hvw
    rename_i blk hblk
    split at hvw
    case h_2 => cases hvw
    rename_i y' c' hp
    injection hvw with hvw; injection hvw with e1 e2; injection e2 with e2 e3
    subst e1; subst e2; subst e3
    have hb : h.get b = .live blk := by rw [hH b (by simp)]; exact hblk
    rcases hv.slc_cases with ⟨cb, co, cc, c', h1, h2, h3⟩ | ⟨h1, a, h2⟩
    · obtain ⟨k1, _, _, k2⟩ := partsOf_ok (hs.cells b blk _ hb h1) hp hc
      refine .inl ⟨cb, co + o, c', by rw [k1]; exact h3, by omega, k2, fun hl => ⟨b, blk, _, hQ b (by simp), hb, h1, .inl (partsOf_len hp hl), rfl⟩⟩
    · obtain ⟨d, hd⟩ := hs.some_ b blk hb
      obtain ⟨k1, _, _, k2⟩ := partsOf_ok (hs.cells b blk _ hb hd) hp hc
      exact .inr ⟨List.length_eq_zero_iff.1 (by omega), a, h2⟩
  · simp only [VR] at hv
    injection hvw with hvw; injection hvw with e1 e2; subst e1
    exact .inr ⟨rfl, none, hv⟩
  · cases hvw
theorem Views.flat0 {s : Sh} {cs : List Value} {y : s.T} (hn : s.ne = 0) (hv : ∀ (ρ : Ren) next, VRs ρ (s.cells y next) cs) : Views w ρ0.base (From ρ0 h Q) s y cs :=
  ⟨[], hn.symm, fun ρ next _ _ => ⟨hv ρ next, fun i blk hi => by
    have := ents_length s y
    rw [hn] at this
    rw [List.length_eq_zero_iff.1 this] at hi
    simp at hi⟩⟩
theorem VRs.split {ρ : Ren} : ∀ (as bs : List AV) (vs : List Value), VRs ρ (as ++ bs) vs → ∃ v1 v2, vs = v1 ++ v2 ∧ VRs ρ as v1 ∧ VRs ρ bs v2
  | [], bs, vs, h => ⟨[], vs, rfl, by simp [VRs], h⟩
  | a :: as, bs, [], h => by simp [VRs] at h
  | a :: as, bs, v :: vs, h => by
    simp only [List.cons_append, VRs] at h
    obtain ⟨v1, v2, rfl, h1, h2⟩ := VRs.split as bs vs h.2
    exact ⟨v :: v1, v2, rfl, by simp only [VRs]; exact ⟨h.1, h1⟩, h2⟩
theorem enc_view {s : Sh} {y : s.T} {vs : List Value} (hv : VRs ρ0 ((s.enc y).map .val) vs) : vs = s.enc y := by
  have key : ∀ (l u : List Value), VRs ρ0 (l.map .val) u → u = l := by
    intro l
    induction l with
    | nil => intro u h; cases u with
      | nil => rfl
      | cons => simp [VRs] at h
    | cons a l ih => intro u h; cases u with
      | nil => simp [VRs] at h
      | cons b u => simp only [List.map_cons, VRs, VR] at h; rw [h.1, ih u h.2]
  exact key _ _ hv
mutual
theorem viewC_ok (hs : Sim ρ0 h w) : ∀ (s : Sh) (cs : List AV) (cvs : List Value), VRs ρ0 cs cvs → ∀ (y : s.T) (bs : List Nat) (c : Bool) (rest : List AV), viewC H s cs = some (y, bs, c, rest) → (∀ b ∈ bs, h.get b = H b) → (∀ b ∈ bs, Q b) → c = true →
    ∃ v1 v2, cvs = v1 ++ v2 ∧ VRs ρ0 rest v2 ∧ Views w ρ0.base (From ρ0 h Q) s y v1
  | .int k, cs, cvs, hv, y, bs, c, rest, hvw, hH, hQ, hc => by
    simp only [viewC] at hvw
    split at hvw
    case h_2 => cases hvw
    rename_i y' r hd
    injection hvw with hvw; injection hvw with e1 e2; injection e2 with e2 e3; injection e3 with e3 e4
    subst e1; subst e4
    obtain ⟨v1, v2, g1, g2, g3⟩ := VRs.split _ _ _ ((dec_ok _ _ _ _ hd).2 ▸ hv)
    exact ⟨v1, v2, g1, g3, .flat0 rfl fun ρ next => by rw [enc_view g2]; simp [Sh.cells, Sh.enc, VRs, VR]⟩
  | .bool, cs, cvs, hv, y, bs, c, rest, hvw, hH, hQ, hc => by
    simp only [viewC] at hvw
    split at hvw
    case h_2 => cases hvw
    rename_i y' r hd
    injection hvw with hvw; injection hvw with e1 e2; injection e2 with e2 e3; injection e3 with e3 e4
    subst e1; subst e4
    obtain ⟨v1, v2, g1, g2, g3⟩ := VRs.split _ _ _ ((dec_ok _ _ _ _ hd).2 ▸ hv)
    exact ⟨v1, v2, g1, g3, .flat0 rfl fun ρ next => by rw [enc_view g2]; simp [Sh.cells, Sh.enc, VRs, VR]⟩
  | .str, cs, cvs, hv, y, bs, c, rest, hvw, hH, hQ, hc => by
    simp only [viewC] at hvw
    split at hvw
    case h_2 => cases hvw
    rename_i y' r hd
    injection hvw with hvw; injection hvw with e1 e2; injection e2 with e2 e3; injection e3 with e3 e4
    subst e1; subst e4
    obtain ⟨v1, v2, g1, g2, g3⟩ := VRs.split _ _ _ ((dec_ok _ _ _ _ hd).2 ▸ hv)
    exact ⟨v1, v2, g1, g3, .flat0 rfl fun ρ next => by rw [enc_view g2]; simp [Sh.cells, Sh.enc, VRs, VR]⟩
  | .st l, cs, cvs, hv, y, bs, c, rest, hvw, hH, hQ, hc => by
    simp only [viewC] at hvw
    obtain ⟨v1, v2, g1, g2, g3⟩ := viewCs_ok hs l cs cvs hv y bs c rest hvw hH hQ hc
    exact ⟨v1, v2, g1, g2, g3⟩
  | .sl e, [], cvs, hv, y, bs, c, rest, hvw, hH, hQ, hc => by simp [viewC] at hvw
  | .sl e, a :: r, [], hv, y, bs, c, rest, hvw, hH, hQ, hc => by simp [VRs] at hv
  | .sl e, a :: r, cv :: cvs, hv, y, bs, c, rest, hvw, hH, hQ, hc => by
    simp only [VRs] at hv
    simp only [viewC] at hvw
    split at hvw
    case h_2 => cases hvw
    rename_i y' b' c' hsl
    injection hvw with hvw; injection hvw with e1 e2; injection e2 with e2 e3; injection e3 with e3 e4
    subst e1; subst e2; subst e3; subst e4
    refine ⟨[cv], cvs, rfl, hv.2, ?_⟩
    rcases viewSl_ok hs hv.1 hsl hH hQ hc with ⟨b, o, c', h2, h3, h4, h5⟩ | ⟨h2, a, h3⟩
    · refine ⟨[(b, o, 0)], rfl, fun ρ next hb hρ => ⟨?_, fun i blk hi => ?_⟩⟩
      · simp only [Sh.cells, VRs, VR]
        exact ⟨.inl ⟨b, o, 0, c', by simpa using hρ 0 _ rfl, h3, h2⟩, trivial⟩
      · simp only [Sh.ents] at hi
        cases i with
        | succ i => simp at hi
        | zero =>
          simp at hi; subst hi
          exact ⟨(b, o, 0), rfl, h4, h5⟩
    · subst h2
      refine ⟨[(0, 0, 0)], rfl, fun ρ next hb hρ => ⟨?_, fun i blk hi => ?_⟩⟩
      · simp only [Sh.cells, VRs, VR]
        exact ⟨.inr ⟨rfl, a, h3⟩, trivial⟩
      · simp only [Sh.ents] at hi
        cases i with
        | succ i => simp at hi
        | zero =>
          simp at hi; subst hi
          exact ⟨(0, 0, 0), rfl, fun j v hj => by simp [Sh.flatl] at hj, fun hl => by simp [Cells.len, Sh.flatl] at hl⟩
  | .rows e, [], cvs, hv, y, bs, c, rest, hvw, hH, hQ, hc => by simp [viewC] at hvw
  | .rows e, a :: r, [], hv, y, bs, c, rest, hvw, hH, hQ, hc => by simp [VRs] at hv
  | .rows e, a :: r, cv :: cvs, hv, y, bs, c, rest, hvw, hH, hQ, hc => by
    simp only [VRs] at hv
    simp only [viewC] at hvw
    split at hvw
    case h_2 => cases hvw
    rename_i y' b' c' hrw
    injection hvw with hvw; injection hvw with e1 e2; injection e2 with e2 e3; injection e3 with e3 e4
    subst e1; subst e2; subst e3; subst e4
    refine ⟨[cv], cvs, rfl, hv.2, ?_⟩
    have nilcase : y' = [] → (∃ a, cv = .slice a 0 0) → Views w ρ0.base (From ρ0 h Q) (.rows e) y' [cv] := by
      rintro rfl ⟨a, h3⟩
      refine ⟨[(0, 0, 0)], rfl, fun ρ next hb hρ => ⟨?_, fun i blk hi => ?_⟩⟩
      · simp only [Sh.cells, VRs, VR]
        exact ⟨.inr ⟨rfl, a, h3⟩, trivial⟩
      · simp only [Sh.ents] at hi
        cases i with
        | succ i => simp at hi
        | zero =>
          simp at hi; subst hi
          exact ⟨(0, 0, 0), rfl, fun j v hj => by simp at hj, fun hl => by simp [Cells.len] at hl⟩
    have somecase : ∀ cb o c', cv = .slice (some ⟨cb, o, none⟩) y'.length c' → y'.length ≤ c' → (∀ (j : Nat) (r : List e.T), y'[j]? = some r → ∃ cv, w.cell? ⟨cb, o + j, none⟩ = some cv ∧ RowIn ρ0.base cv (e.flatl r)) → (0 < y'.length → From ρ0 h Q cb) → Views w ρ0.base (From ρ0 h Q) (.rows e) y' [cv] := by
      intro cb o c' h2 h3 h4 h9
      refine ⟨[(cb, o, 0)], rfl, fun ρ next hb hρ => ⟨?_, fun i blk hi => ?_⟩⟩
      · simp only [Sh.cells, VRs, VR]
        exact ⟨.inl ⟨cb, o, 0, c', by simpa using hρ 0 _ rfl, h3, h2⟩, trivial⟩
      · simp only [Sh.ents] at hi
        cases i with
        | succ i => simp at hi
        | zero =>
          simp at hi; subst hi
          refine ⟨(cb, o, 0), rfl, fun j r hj => ?_, h9⟩
          obtain ⟨u, h5, h6⟩ := h4 j r hj
          exact ⟨u, h5, by rw [hb]; exact h6⟩
    unfold viewRw at hrw
    split at hrw
    · rename_i b o n cp
      split at hrw
      case isFalse => cases hrw
      rename_i hfw
      split at hrw
      case h_2 => cases hrw
      rename_i blk hblk
      split at hrw
      · rename_i e' l hcells
        split at hrw
        case h_2 => cases hrw
        rename_i hse _
        obtain ⟨hse⟩ := hse
        subst hse
        have two : ∃ y0, (o = 0 ∧ y0 = l ∧ n = l.length ∧ y' = y0 ∧ b' = [b]) ∨ (o + n ≤ l.length ∧ y' = cut l o n ∧ b' = [b]) := by
          split at hrw
          · injection hrw with hrw; injection hrw with e1 e2; injection e2 with e2 e3
            exact ⟨l, .inl ⟨rfl, rfl, by subst e3; simpa using hc, e1.symm, e2.symm⟩⟩
          · injection hrw with hrw; injection hrw with e1 e2; injection e2 with e2 e3
            exact ⟨l, .inr ⟨by subst e3; simpa using hc, e1.symm, e2.symm⟩⟩
        obtain ⟨hc, rfl, rfl⟩ : o + n ≤ l.length ∧ y' = cut l o n ∧ b' = [b] := by
          obtain ⟨y0, ⟨k1, k2, k3, k4, k5⟩ | k⟩ := two
          · subst k1; subst k2; subst k3; exact ⟨by omega, by rw [k4, cut_all], k5⟩
          · exact k
        have hb : h.get b = .live blk := by rw [hH b (by simp)]; exact hblk
        have hlen := cut_length hc
        rcases hv.1.slc_cases with ⟨cb, co, cc, c', h1, h2, h3⟩ | ⟨h1, a, h2⟩
        · refine somecase cb (co + o) c' (by rw [hlen]; exact h3) (by rw [hlen]; exact h2) (fun j r hj => ?_) fun hl => ⟨b, blk, _, hQ b (by simp), hb, h1, .inl (by rw [hcells]; show 0 < l.length; have := hl; rw [hlen] at this; omega), rfl⟩
          have hca := hs.cells b blk _ hb h1
          rw [hcells] at hca
          have hj2 : l[o + j]? = some r := by
            simp only [cut, List.getElem?_take] at hj
            split at hj
            · rwa [List.getElem?_drop] at hj
            · cases hj
          obtain ⟨u, h5, h6⟩ := hca _ r hj2
          exact ⟨u, by rw [Nat.add_assoc]; exact h5, h6⟩
        · exact nilcase (List.length_eq_zero_iff.1 (by rw [hlen]; exact h1)) ⟨a, h2⟩
      · cases hrw
    · simp only [VR] at hv
      split at hrw
      case isFalse => cases hrw
      injection hrw with hrw; injection hrw with e1 e2; subst e1
      exact nilcase rfl ⟨none, hv.1⟩
    · cases hrw
theorem viewCs_ok (hs : Sim ρ0 h w) : ∀ (l : List Sh) (cs : List AV) (cvs : List Value), VRs ρ0 cs cvs → ∀ (y : Sh.Ts l) (bs : List Nat) (c : Bool) (rest : List AV), viewCs H l cs = some (y, bs, c, rest) → (∀ b ∈ bs, h.get b = H b) → (∀ b ∈ bs, Q b) → c = true →
    ∃ v1 v2, cvs = v1 ++ v2 ∧ VRs ρ0 rest v2 ∧ ViewsL w ρ0.base (From ρ0 h Q) l y v1
  | [], cs, cvs, hv, y, bs, c, rest, hvw, hH, hQ, hc => by
    simp only [viewCs] at hvw
    injection hvw with hvw; injection hvw with e1 e2; injection e2 with e2 e3; injection e3 with e3 e4
    subst e4
    exact ⟨[], cvs, rfl, hv, .nil⟩
  | s :: l, cs, cvs, hv, y, bs, c, rest, hvw, hH, hQ, hc => by
    simp only [viewCs] at hvw
    split at hvw
    case h_2 => cases hvw
    rename_i y0 b0 c0 r0 h0
    split at hvw
    case h_2 => cases hvw
    rename_i z b1 c1 r1 h1
    injection hvw with hvw; injection hvw with e1 e2; injection e2 with e2 e3; injection e3 with e3 e4
    subst e1; subst e2; subst e3; subst e4
    simp only [Bool.and_eq_true] at hc
    obtain ⟨v1, v2, rfl, g2, g3⟩ := viewC_ok hs s cs cvs hv y0 b0 c0 r0 h0 (fun b hb => hH b (List.mem_append.2 (.inl hb))) (fun b hb => hQ b (List.mem_append.2 (.inl hb))) hc.1
    obtain ⟨v3, v4, rfl, g4, g5⟩ := viewCs_ok hs l r0 v2 g2 z b1 c1 r1 h1 (fun b hb => hH b (List.mem_append.2 (.inr hb))) (fun b hb => hQ b (List.mem_append.2 (.inr hb))) hc.2
    exact ⟨v1 ++ v3, v4, by simp, g4, ViewsL.cons g3 g5⟩
end
end
end Go.Ab
namespace Go.Ab
def argCells : Sh → AV → Option (List AV)
  | .st _, .agg cs => some cs
  | .st _, .val (.agg cs) => some (cs.toList.map .val)
  | .st _, _ => none
  | _, a => some [a]
def viewA (H : Nat → Ent) (s : Sh) (a : AV) : Option (s.T × List Nat × Bool) :=
  match argCells s a with
  | some cs => (match viewC H s cs with
    | some (y, b, c, []) => some (y, b, c)
    | _ => none)
  | none => none
def viewArgs (H : Nat → Ent) : (l : List Sh) → List AV → Option (Sh.Ts l × List Nat × Bool)
  | [], [] => some ((), [], true)
  | s :: l, a :: as => (match viewA H s a with
    | some (y, b, c) => (match viewArgs H l as with
      | some (z, b', c') => some ((y, z), b ++ b', c && c')
      | none => none)
    | none => none)
  | _, _ => none
def ViewsA (w B : World) (F : Nat → Prop) (l : List Sh) (y : Sh.Ts l) (vs : List Value) : Prop :=
  ∃ c : List (Nat × Nat × Nat), c.length = Sh.nes l ∧ ∀ (ρ : Ren) (next : Nat), ρ.base = B → (∀ (i : Nat) (d : Nat × Nat × Nat), c[i]? = some d → ρ (next + i) = some d) →
    VRs ρ (Sh.args l y next) vs ∧ ∀ (i : Nat) (blk : Blk), (Sh.entss l y)[i]? = some (.live blk) → ∃ d : Nat × Nat × Nat, c[i]? = some d ∧ CellsAt ρ w d.1 d.2.1 blk.cells ∧ (0 < blk.cells.len → F d.1)
theorem viewA_ok {ρ0 : Ren} {h : Heap} {w : World} {H : Nat → Ent} {Q : Nat → Prop} (hs : Sim ρ0 h w) {s : Sh} {a : AV} {v : Value} (hv : VR ρ0 a v) {y : s.T} {bs : List Nat} {c : Bool} (hvw : viewA H s a = some (y, bs, c)) (hH : ∀ b ∈ bs, h.get b = H b) (hQ : ∀ b ∈ bs, Q b) (hc : c = true) :
    ∃ cs, Views w ρ0.base (From ρ0 h Q) s y cs ∧ ∀ (ρ : Ren) next, VRs ρ (s.cells y next) cs → VR ρ (s.arg y next) v := by
  unfold viewA at hvw
  split at hvw
  case h_2 => cases hvw
  rename_i cs hcs
  split at hvw
  case h_2 => cases hvw
  rename_i y' b' c' hvc
  injection hvw with hvw; injection hvw with e1 e2; injection e2 with e2 e3
  subst e1; subst e2; subst e3
  have one : argCells s a = some [a] → (∀ next, s.cells y' next = [s.arg y' next]) → ∃ cs, Views w ρ0.base (From ρ0 h Q) s y' cs ∧ ∀ (ρ : Ren) next, VRs ρ (s.cells y' next) cs → VR ρ (s.arg y' next) v := by
    intro h1 h2
    rw [h1] at hcs; injection hcs with hcs; subst hcs
    obtain ⟨v1, v2, g1, g2, g3⟩ := viewC_ok hs s [a] [v] (by simp only [VRs]; exact ⟨hv, trivial⟩) y' b' c' [] hvc hH hQ hc
    have : v2 = [] := by
      cases v2 with
      | nil => rfl
      | cons => simp [VRs] at g2
    subst this
    simp at g1; subst g1
    refine ⟨[v], g3, fun ρ next hr => ?_⟩
    rw [h2] at hr
    simpa [VRs] using hr
  cases s with
  | int k => exact one rfl fun _ => rfl
  | bool => exact one rfl fun _ => rfl
  | str => exact one rfl fun _ => rfl
  | sl e => exact one rfl fun _ => rfl
  | rows e => exact one rfl fun _ => rfl
  | st l =>
    have hag : ∃ us, v = .agg us ∧ VRs ρ0 cs us.toList := by
      unfold argCells at hcs
      split at hcs
      · rename_i e; injection e with e; subst e
        injection hcs with hcs; subst hcs
        simp only [VR] at hv; exact hv
      · rename_i e; injection e with e; subst e
        injection hcs with hcs; subst hcs
        simp only [VR] at hv; exact ⟨_, hv, VRs.vals _⟩
      · cases hcs
      · exfalso; simp_all
    obtain ⟨us, hu, hr⟩ := hag
    obtain ⟨v1, v2, g1, g2, g3⟩ := viewC_ok hs (.st l) cs us.toList hr y' b' c' [] hvc hH hQ hc
    have : v2 = [] := by
      cases v2 with
      | nil => rfl
      | cons => simp [VRs] at g2
    subst this
    simp at g1
    refine ⟨v1, g3, fun ρ next hr => ?_⟩
    simp only [Sh.arg, VR]
    exact ⟨us, hu, by rw [g1]; simpa [Sh.cells] using hr⟩
theorem viewArgs_ok {ρ0 : Ren} {h : Heap} {w : World} {H : Nat → Ent} {Q : Nat → Prop} (hs : Sim ρ0 h w) : ∀ (l : List Sh) (as : List AV) (vs : List Value), VRs ρ0 as vs → ∀ (y : Sh.Ts l) (bs : List Nat) (c : Bool), viewArgs H l as = some (y, bs, c) → (∀ b ∈ bs, h.get b = H b) → (∀ b ∈ bs, Q b) → c = true → ViewsA w ρ0.base (From ρ0 h Q) l y vs
  | [], [], [], _, y, bs, c, _, _, _, _ => ⟨[], rfl, fun ρ next _ _ => ⟨by simp [Sh.args, VRs], fun i blk h => by simp [Sh.entss] at h⟩⟩
  | [], [], _ :: _, hv, _, _, _, _, _, _, _ => by simp [VRs] at hv
  | [], _ :: _, _, _, _, _, _, h, _, _, _ => by simp [viewArgs] at h
  | _ :: _, [], _, _, _, _, _, h, _, _, _ => by simp [viewArgs] at h
  | _ :: _, _ :: _, [], hv, _, _, _, _, _, _, _ => by simp [VRs] at hv
  | s :: l, a :: as, v :: vs, hv, y, bs, c, hvw, hH, hQ, hc => by
    simp only [VRs] at hv
    simp only [viewArgs] at hvw
    split at hvw
    case h_2 => cases hvw
    rename_i y0 b0 c0 h0
    split at hvw
    case h_2 => cases hvw
    rename_i z b1 c1 h1
    injection hvw with hvw; injection hvw with e1 e2; injection e2 with e2 e3
    subst e1; subst e2; subst e3
    simp only [Bool.and_eq_true] at hc
    obtain ⟨cs, ⟨d1, l1, f1⟩, harg⟩ := viewA_ok hs hv.1 h0 (fun b hb => hH b (List.mem_append.2 (.inl hb))) (fun b hb => hQ b (List.mem_append.2 (.inl hb))) hc.1
    obtain ⟨d2, l2, f2⟩ := viewArgs_ok hs l as vs hv.2 z b1 c1 h1 (fun b hb => hH b (List.mem_append.2 (.inr hb))) (fun b hb => hQ b (List.mem_append.2 (.inr hb))) hc.2
    refine ⟨d1 ++ d2, by simp [Sh.nes, l1, l2], fun ρ next hb hρ => ?_⟩
    obtain ⟨a1, a2⟩ := f1 ρ next hb fun i d hi => hρ i d (by rw [List.getElem?_append_left]; exact hi; exact (List.getElem?_eq_some_iff.1 hi).1)
    obtain ⟨b1, b2⟩ := f2 ρ (next + s.ne) hb fun i d hi => by
      have := hρ (s.ne + i) d (by rw [List.getElem?_append_right (by omega), l1, Nat.add_sub_cancel_left]; exact hi)
      rw [Nat.add_assoc]; exact this
    refine ⟨by simp only [Sh.args, VRs]; exact ⟨harg ρ next a1, b1⟩, fun i blk hi => ?_⟩
    simp only [Sh.entss] at hi
    have el := ents_length s y0
    by_cases hil : i < s.ne
    · rw [List.getElem?_append_left (by omega)] at hi
      obtain ⟨d, h3, h4⟩ := a2 i blk hi
      exact ⟨d, by rw [List.getElem?_append_left (by omega)]; exact h3, h4⟩
    · rw [List.getElem?_append_right (by omega), el] at hi
      obtain ⟨d, h3, h4⟩ := b2 (i - s.ne) blk hi
      exact ⟨d, by rw [List.getElem?_append_right (by omega), l1]; exact h3, h4⟩
theorem inside_of18 {ρ : Ren} {W : World} {b o : Nat} {cs : Cells} (h : CellsAt ρ W b o cs) (hl : 0 < cs.len) : b < W.heap.size := by
  have key : ∀ off cv, W.cell? ⟨b, off, none⟩ = some cv → b < W.heap.size := fun off cv h => by
    rcases Nat.lt_or_ge b W.heap.size with h' | h'
    · exact h'
    · simp [World.cell?, Array.getElem?_eq_none h'] at h
  cases cs with
  | lit l => obtain ⟨cv, h1, _⟩ := h 0 l[0] (List.getElem?_eq_getElem hl); exact key _ cv h1
  | sym l => exact key _ _ (h 0 l[0] (List.getElem?_eq_getElem hl))
  | rows l => obtain ⟨cv, h1, _⟩ := h 0 l[0] (List.getElem?_eq_getElem hl); exact key _ cv h1
  | arr s l => exact key _ _ (h 0 (s.flatl l)[0] (List.getElem?_eq_getElem hl))
  | arrs s l => obtain ⟨cv, h1, _⟩ := h 0 l[0] (List.getElem?_eq_getElem hl); exact key _ cv h1
theorem get_entss {l : List Sh} {y : Sh.Ts l} {b : Nat} {blk : Blk} (hb : Heap.get (Sh.entss l y) b = .live blk) : (Sh.entss l y)[b]? = some (.live blk) := by
  simp only [Heap.get, List.getD_eq_getElem?_getD] at hb
  cases hq : (Sh.entss l y)[b]? with
  | none => rw [hq] at hb; cases hb
  | some e => rw [hq] at hb; simp at hb; rw [hb]
theorem entss_norw {l : List Sh} {y : Sh.Ts l} {b : Nat} {blk : Blk} (hb : Heap.get (Sh.entss l y) b = .live blk) : blk.rw = false := by
  obtain ⟨blk', h3, h4, _⟩ := entss_live l y _ (List.mem_of_getElem? (get_entss hb))
  injection h3 with h3; subst h3; exact h4
theorem sim_views {W B : World} (hB : B.heap.size ≤ W.heap.size) (hO : ∀ i, i < B.heap.size → W.heap[i]? = B.heap[i]?) {l : List Sh} {vs : List Value} {y : Sh.Ts l} {F : Nat → Prop} (h : ViewsA W B F l y vs) : ∃ ρ : Ren, ρ.base = B ∧ VRs ρ (Sh.args l y 0) vs ∧ Sim ρ (Sh.entss l y) W ∧ ∀ b blk d, Heap.get (Sh.entss l y) b = .live blk → ρ b = some d → 0 < blk.cells.len → F d.1 := by
  obtain ⟨c, hc, hf⟩ := h
  have hel := entss_length l y
  obtain ⟨h1, h2⟩ := hf ⟨fun b => c[b]?, B⟩ 0 rfl (fun i d hi => by simpa using hi)
  refine ⟨_, rfl, h1, ?_, fun b blk d hb hd hl => ?_⟩
  rotate_left
  · obtain ⟨d', h3, _, h5⟩ := h2 b blk (get_entss hb)
    have : some d' = some d := h3.symm.trans hd
    injection this with this; subst this; exact h5 hl
  have norw : ∀ b blk, Heap.get (Sh.entss l y) b = .live blk → blk.rw = true → False := fun b blk hb hr => by
    rw [entss_norw hb] at hr; cases hr
  refine ⟨fun b blk hb => ?_, fun b blk c' hb hc' => ?_, fun b blk c' hb hc' hs => ?_, fun b blk c' hb hc' hr => (norw b blk hb hr).elim, fun b b' blk blk' c' d' hb hb' hne hc' hd' hr => (norw b blk hb hr).elim, fun b hb => ?_, hB, hO, fun b blk c' hb hc' hr => (norw b blk hb hr).elim⟩
  · obtain ⟨d, h3, _⟩ := h2 b blk (get_entss hb); exact ⟨d, h3⟩
  · obtain ⟨d, h3, h4, _⟩ := h2 b blk (get_entss hb)
    have : some d = some c' := h3.symm.trans hc'
    injection this with this; subst this; exact h4
  · obtain ⟨d, h3, h4, _⟩ := h2 b blk (get_entss hb)
    have : some d = some c' := h3.symm.trans hc'
    injection this with this; subst this
    refine inside_of18 h4 ?_
    rcases hs with hs | hs
    · exact hs
    · exact (norw b blk hb hs.1).elim
  · show c[b]? = none
    have hb' : Heap.get (Sh.entss l y) b = .free := hb
    simp only [Heap.get, List.getD_eq_getElem?_getD] at hb'
    cases hq : (Sh.entss l y)[b]? with
    | none =>
      have : (Sh.entss l y).length ≤ b := by simpa using hq
      simp; omega
    | some e =>
      obtain ⟨blk, h3, _⟩ := entss_live l y e (List.mem_of_getElem? hq)
      rw [hq, h3] at hb'; simp at hb'
def wbNew : Nat → List Ent → List (Nat × Ent)
  | _, [] => []
  | k, e :: es => (k, e) :: wbNew (k + 1) es
theorem get_wbNew : ∀ (es : List Ent) (new : Nat) (h : Heap) (x : Nat), (h.upds (wbNew new es)).get x = if new ≤ x ∧ x < new + es.length then es.getD (x - new) .free else h.get x
  | [], new, h, x => by
    simp only [wbNew, Heap.upds, List.length_nil]
    rw [if_neg (by omega)]
  | e :: es, new, h, x => by
    simp only [wbNew, Heap.upds]
    rw [get_wbNew es (new + 1) _ x]
    by_cases h1 : new + 1 ≤ x ∧ x < new + 1 + es.length
    · rw [if_pos h1, if_pos (by simp; omega)]
      rw [show x - new = (x - (new + 1)) + 1 by omega]
      simp
    · rw [if_neg h1, Heap.get_upd]
      by_cases h2 : x = new
      · subst h2
        rw [if_pos rfl, if_pos (by simp)]
        simp
      · rw [if_neg h2, if_neg (by simp; omega)]
def AV.isVal : AV → Bool
  | .val _ => true
  | _ => false
def Ent.own : Ent → Bool
  | .live blk => blk.rw && (match blk.cells with
    | .arr _ _ => true
    | .lit l => l.all AV.isVal
    | _ => false)
  | _ => false
theorem after_pure {Γ : Ctx} {ρ : Ren} {h : Heap} {w : World} (hI : Inv Γ ρ h w) {hg : Heap} (hgn : ∀ b blk, hg.get b = .live blk → blk.rw = false) {ρg ρg' : Ren} {es : List Ent} (hes : es.all Ent.own = true) {w' : World} (hJ : Inv ⟨hg.length, ρg, hg, w⟩ ρg' (hg ++ es) w')
    {new : Nat} (hn : Γ.n0 ≤ new) (hfree : ∀ x, new ≤ x → x < new + es.length → h.get x = .free) :
    ∃ ρ', ρ.le ρ' ∧ (∀ k, k < es.length → ρ' (new + k) = ρg' (hg.length + k)) ∧ Inv Γ ρ' (h.upds (wbNew new es)) w' := by
  let ρ' : Ren := ⟨fun x => if new ≤ x ∧ x < new + es.length then ρg' (hg.length + (x - new)) else ρ x, ρ.base⟩
  have ρ_old : ∀ x, ¬ (new ≤ x ∧ x < new + es.length) → ρ' x = ρ x := fun x hx => by simp only [ρ']; rw [if_neg hx]
  have ρ_new : ∀ x, (new ≤ x ∧ x < new + es.length) → ρ' x = ρg' (hg.length + (x - new)) := fun x hx => by simp only [ρ']; rw [if_pos hx]
  have notown : ∀ i, ¬ Ctx.owned ⟨hg.length, ρg, hg, w⟩ i := by
    rintro i ⟨b, blk, c, _, hb, hr, _⟩
    rw [hgn b blk hb] at hr; cases hr
  have keep : ∀ i, i < w.heap.size → w'.heap[i]? = w.heap[i]? := fun i hi => hJ.keep i hi (notown i)
  have hsz : w.heap.size ≤ w'.heap.size := hJ.size
  have hle : ρ.le ρ' := ⟨fun x d hx => by
    rw [ρ_old x fun hx' => by rw [hI.sim.dom x (hfree x hx'.1 hx'.2)] at hx; cases hx]; exact hx, rfl⟩
  -- the entries
  have ent : ∀ x blk, (h.upds (wbNew new es)).get x = .live blk → ((new ≤ x ∧ x < new + es.length) ∧ Heap.get (hg ++ es) (hg.length + (x - new)) = .live blk ∧ blk.rw = true ∧ (∀ (ρ1 ρ2 : Ren) w cb co, CellsAt ρ1 w cb co blk.cells → CellsAt ρ2 w cb co blk.cells)) ∨ (¬ (new ≤ x ∧ x < new + es.length) ∧ h.get x = .live blk) := by
    intro x blk hx
    rw [get_wbNew] at hx
    by_cases hw : new ≤ x ∧ x < new + es.length
    · rw [if_pos hw] at hx
      have h1 : es[x - new]? = some (.live blk) := by
        have : x - new < es.length := by omega
        rw [List.getD_eq_getElem?_getD, List.getElem?_eq_getElem this] at hx
        rw [List.getElem?_eq_getElem this]; simpa using hx
      have h2 := List.all_eq_true.1 hes _ (List.mem_of_getElem? h1)
      simp only [Ent.own, Bool.and_eq_true] at h2
      refine .inl ⟨hw, ?_, h2.1, ?_⟩
      · simp only [Heap.get, List.getD_eq_getElem?_getD]
        rw [List.getElem?_append_right (by omega), Nat.add_sub_cancel_left, h1]; rfl
      · obtain ⟨_, h3⟩ := h2
        split at h3
        · rename_i s l hc; rw [hc]; exact fun _ _ _ _ _ h => h
        · rename_i l hc
          rw [hc]
          intro ρ1 ρ2 w cb co hca i v hi
          obtain ⟨cv, q1, q2⟩ := hca i v hi
          have hv := List.all_eq_true.1 h3 v (List.mem_of_getElem? hi)
          cases v with
          | val u => exact ⟨cv, q1, by simpa [VR] using q2⟩
          | _ => simp [AV.isVal] at hv
        · cases h3
    · rw [if_neg hw] at hx; exact .inr ⟨hw, hx⟩
  have freshg : ∀ b blk c, Heap.get (hg ++ es) b = .live blk → ρg' b = some c → blk.rw = true → blk.solid c → w.heap.size ≤ c.1 := fun b blk c hb hc hr hs => by
    rcases hJ.fresh b blk c hb hc hr hs with h1 | h1
    · exact h1
    · exact absurd h1 (notown _)
  refine ⟨ρ', hle, fun k hk => by rw [ρ_new _ (by omega)]; congr 1; omega, ⟨⟨?_, ?_, ?_, ?_, ?_, ?_, ?_, ?_, ?_⟩, ?_, hI.sameBase, hJ.os.trans hI.os, hJ.tape.trans hI.tape, hJ.output.trans hI.output, Nat.le_trans hI.size hsz, ?_, ?_⟩⟩
  · intro x blk hx
    rcases ent x blk hx with ⟨h1, h2, _⟩ | ⟨h1, h2⟩
    · rw [ρ_new x h1]; exact hJ.sim.some_ _ blk h2
    · rw [ρ_old x h1]; exact hI.sim.some_ x blk h2
  · intro x blk c hx hc
    rcases ent x blk hx with ⟨h1, h2, _, h3⟩ | ⟨h1, h2⟩
    · rw [ρ_new x h1] at hc
      have := hJ.sim.cells _ blk c h2 hc
      exact h3 _ _ _ _ _ this
    · rw [ρ_old x h1] at hc
      refine ((hI.sim.cells x blk c h2 hc).of_cell fun hpos o => ?_).mono hle
      exact cell_of_heap (keep _ (hI.sim.inside x blk c h2 hc (.inl hpos))) o
  · intro x blk c hx hc hs
    rcases ent x blk hx with ⟨h1, h2, _⟩ | ⟨h1, h2⟩
    · rw [ρ_new x h1] at hc; exact hJ.sim.inside _ blk c h2 hc hs
    · rw [ρ_old x h1] at hc; have := hI.sim.inside x blk c h2 hc hs; omega
  · intro x blk c hx hc hr hs
    rcases ent x blk hx with ⟨h1, h2, _⟩ | ⟨h1, h2⟩
    · rw [ρ_new x h1] at hc; exact hJ.sim.own _ blk c h2 hc hr hs
    · rw [ρ_old x h1] at hc
      obtain ⟨k1, cs, el, k2, k3⟩ := hI.sim.own x blk c h2 hc hr hs
      exact ⟨k1, cs, el, by rw [keep _ (hI.sim.inside x blk c h2 hc hs)]; exact k2, k3⟩
  · intro x y xb yb c d hx hy hne hc hd hr hs hs'
    rcases ent x xb hx with ⟨h1, h2, _⟩ | ⟨h1, h2⟩
    · rw [ρ_new x h1] at hc
      rcases ent y yb hy with ⟨k1, k2, _⟩ | ⟨k1, k2⟩
      · rw [ρ_new y k1] at hd
        exact hJ.sim.apart _ _ xb yb c d h2 k2 (by omega) hc hd hr hs hs'
      · rw [ρ_old y k1] at hd
        have := hI.sim.inside y yb d k2 hd hs'
        have := freshg _ xb c h2 hc hr hs
        omega
    · rw [ρ_old x h1] at hc
      rcases ent y yb hy with ⟨k1, k2, k3, _⟩ | ⟨k1, k2⟩
      · rw [ρ_new y k1] at hd
        have := hI.sim.inside x xb c h2 hc hs
        have := freshg _ yb d k2 hd k3 hs'
        omega
      · rw [ρ_old y k1] at hd
        exact hI.sim.apart x y xb yb c d h2 k2 hne hc hd hr hs hs'
  · intro x hx
    rw [get_wbNew] at hx
    by_cases hw : new ≤ x ∧ x < new + es.length
    · rw [if_pos hw] at hx
      have : x - new < es.length := by omega
      rw [List.getD_eq_getElem?_getD, List.getElem?_eq_getElem this] at hx
      have h2 := List.all_eq_true.1 hes _ (List.getElem_mem this)
      simp at hx; rw [hx] at h2; cases h2
    · rw [if_neg hw] at hx
      rw [ρ_old x hw]; exact hI.sim.dom x hx
  · show ρ.base.heap.size ≤ _
    have := hI.sim.baseLe; omega
  · intro i hi
    have hi : i < ρ.base.heap.size := hi
    rw [keep i (by have := hI.sim.baseLe; omega)]; exact hI.sim.old i hi
  · intro x blk c hx hc hr hs
    show ρ.base.heap.size ≤ _
    rcases ent x blk hx with ⟨h1, h2, _⟩ | ⟨h1, h2⟩
    · rw [ρ_new x h1] at hc
      have := freshg _ blk c h2 hc hr hs
      have := hI.sim.baseLe; omega
    · rw [ρ_old x h1] at hc; exact hI.sim.above x blk c h2 hc hr hs
  · intro b hb
    rw [ρ_old b (by omega)]; exact hI.agree b hb
  · intro i hi hno
    rw [keep i (by have := hI.size; omega)]; exact hI.keep i hi hno
  · intro x blk c hx hc hr hs
    rcases ent x blk hx with ⟨h1, h2, _⟩ | ⟨h1, h2⟩
    · rw [ρ_new x h1] at hc
      have := freshg _ blk c h2 hc hr hs
      have := hI.size
      exact .inl (by omega)
    · rw [ρ_old x h1] at hc; exact hI.fresh x blk c h2 hc hr hs
theorem Invokes.mono {P : Program} {f : FuncId} {args : Array Value} {w : World} {R R' : Ending → World → Prop} (h : Invokes P f args w R) (hr : ∀ e w, R e w → R' e w) : Invokes P f args w R' := by
  unfold Invokes at *
  generalize (callFunc f args).run P w = r at h
  cases r with
  | halt x w' => exact h.elim
  | ok nx w' =>
    cases nx with
    | enter g as => exact Calls.mono h hr
    | value v => exact hr _ _ h
    | _ => exact h.elim
theorem VRs.nil_any {ρ ρ' : Ren} {cs : List Value} (h : VRs ρ [] cs) : VRs ρ' [] cs := by
  cases cs with
  | nil => simp [VRs]
  | cons => simp [VRs] at h
mutual
theorem cells_shift {ρ ρ' : Ren} : ∀ (s : Sh) (y : s.T) (n new : Nat), (∀ k, k < s.ne → ρ' (new + k) = ρ (n + k)) → ∀ cs, VRs ρ (s.cells y n) cs → VRs ρ' (s.cells y new) cs
  | .int k, y, n, new, _, [], h => by simp [Sh.cells, VRs] at h
  | .int k, y, n, new, _, v :: cs, h => by
    simp only [Sh.cells, VRs, VR] at h ⊢
    exact ⟨h.1, h.2.nil_any⟩
  | .bool, y, n, new, _, [], h => by simp [Sh.cells, VRs] at h
  | .bool, y, n, new, _, v :: cs, h => by
    simp only [Sh.cells, VRs, VR] at h ⊢
    exact ⟨h.1, h.2.nil_any⟩
  | .str, y, n, new, _, [], h => by simp [Sh.cells, VRs] at h
  | .str, y, n, new, _, v :: cs, h => by
    simp only [Sh.cells, VRs, VR] at h ⊢
    exact ⟨h.1, h.2.nil_any⟩
  | .st l, y, n, new, hk, cs, h => by
    simp only [Sh.cells] at *
    exact cellss_shift l y n new hk cs h
  | .sl e, y, n, new, hk, cs, h => by
    have h0 := hk 0 (by simp [Sh.ne])
    simp only [Nat.add_zero] at h0
    cases cs with
    | nil => simp [Sh.cells, VRs] at h
    | cons v cs =>
      simp only [Sh.cells, VRs] at h ⊢
      refine ⟨?_, h.2.nil_any⟩
      have h1 := h.1
      simp only [VR] at h1 ⊢
      rw [h0]; exact h1
  | .rows e, y, n, new, hk, cs, h => by
    have h0 := hk 0 (by simp [Sh.ne])
    simp only [Nat.add_zero] at h0
    cases cs with
    | nil => simp [Sh.cells, VRs] at h
    | cons v cs =>
      simp only [Sh.cells, VRs] at h ⊢
      refine ⟨?_, h.2.nil_any⟩
      have h1 := h.1
      simp only [VR] at h1 ⊢
      rw [h0]; exact h1
theorem cellss_shift {ρ ρ' : Ren} : ∀ (l : List Sh) (y : Sh.Ts l) (n new : Nat), (∀ k, k < Sh.nes l → ρ' (new + k) = ρ (n + k)) → ∀ cs, VRs ρ (Sh.cellss l y n) cs → VRs ρ' (Sh.cellss l y new) cs
  | [], _, _, _, _, cs, h => h.nil_any
  | s :: l, y, n, new, hk, cs, h => by
    simp only [Sh.cellss] at h ⊢
    obtain ⟨v1, v2, rfl, h1, h2⟩ := VRs.split _ _ _ h
    refine (cells_shift s y.1 n new (fun k hl => hk k (by simp only [Sh.nes]; omega)) v1 h1).append (cellss_shift l y.2 (n + s.ne) (new + s.ne) (fun k hl => ?_) v2 h2)
    have := hk (s.ne + k) (by simp only [Sh.nes]; omega)
    rw [Nat.add_assoc, Nat.add_assoc]; exact this
end
theorem arg_shift {ρ ρ' : Ren} (s : Sh) (y : s.T) (n new : Nat) (hk : ∀ k, k < s.ne → ρ' (new + k) = ρ (n + k)) {v : Value} (h : VR ρ (s.arg y n) v) : VR ρ' (s.arg y new) v := by
  have one : s.cells y n = [s.arg y n] → s.cells y new = [s.arg y new] → VR ρ' (s.arg y new) v := fun e1 e2 => by
    have := cells_shift s y n new hk [v] (by rw [e1]; simp only [VRs]; exact ⟨h, trivial⟩)
    rw [e2] at this; simpa [VRs] using this
  cases s with
  | st l =>
    simp only [Sh.arg, VR] at h ⊢
    obtain ⟨cs, h1, h2⟩ := h
    exact ⟨cs, h1, cellss_shift l y n new hk _ h2⟩
  | int k => exact one rfl rfl
  | bool => exact one rfl rfl
  | str => exact one rfl rfl
  | sl e => exact one rfl rfl
  | rows e => exact one rfl rfl
theorem args_shift {ρ ρ' : Ren} : ∀ (l : List Sh) (y : Sh.Ts l) (n new : Nat), (∀ k, k < Sh.nes l → ρ' (new + k) = ρ (n + k)) → ∀ cs, VRs ρ (Sh.args l y n) cs → VRs ρ' (Sh.args l y new) cs
  | [], _, _, _, _, cs, h => h.nil_any
  | s :: l, y, n, new, hk, [], h => by simp [Sh.args, VRs] at h
  | s :: l, y, n, new, hk, v :: cs, h => by
    simp only [Sh.args, VRs] at h ⊢
    refine ⟨arg_shift s y.1 n new (fun k hl => hk k (by simp only [Sh.nes]; omega)) h.1, args_shift l y.2 (n + s.ne) (new + s.ne) (fun k hl => ?_) cs h.2⟩
    have := hk (s.ne + k) (by simp only [Sh.nes]; omega)
    rw [Nat.add_assoc, Nat.add_assoc]; exact this
def outV (rs : List Sh) (y : Sh.Ts rs) (n : Nat) : AV := resV (Sh.args rs y n)
theorem outV_shift {ρ ρ' : Ren} (rs : List Sh) (y : Sh.Ts rs) (n new : Nat) (hk : ∀ k, k < Sh.nes rs → ρ' (new + k) = ρ (n + k)) {v : Value} (h : VR ρ (outV rs y n) v) : VR ρ' (outV rs y new) v := by
  have len : ∀ (l : List Sh) (y : Sh.Ts l) n, (Sh.args l y n).length = l.length := by
    intro l
    induction l with
    | nil => intros; rfl
    | cons s l ih => intro y n; simp [Sh.args, ih]
  unfold outV resV at *
  match rs, y, hk, h with
  | [s], y, hk, h =>
    simp only [Sh.args] at h ⊢
    exact arg_shift s y.1 n new (fun k hl => hk k (by simp only [Sh.nes]; omega)) h
  | [], y, hk, h =>
    simp only [Sh.args, VR] at h ⊢
    obtain ⟨vs, h1, h2⟩ := h
    exact ⟨vs, h1, h2.nil_any⟩
  | s :: s' :: l, y, hk, h =>
    simp only [Sh.args] at h ⊢
    simp only [VR] at h ⊢
    obtain ⟨vs, h1, h2⟩ := h
    exact ⟨vs, h1, args_shift (s :: s' :: l) y n new hk _ h2⟩
def rwEnt : Ent → Ent
  | .live b => .live { b with rw := true }
  | e => e
def newEnts (rs : List Sh) (y : Sh.Ts rs) : List Ent := (Sh.entss rs y).map rwEnt
def Reads (P : Program) (f : FuncId) (ss rs : List Sh) (law : Sh.Ts ss → Option (Sh.Ts rs)) : Prop :=
  ∀ x y, law x = some y → Does P f (Sh.args ss x 0) (Sh.entss ss x) (outV rs y (Sh.entss ss x).length) (Sh.entss ss x ++ newEnts rs y)
def readsS {P : Program} {β : Type} (ss rs : List Sh) (law : Sh.Ts ss → Option (Sh.Ts rs)) (H : Nat → Ent) (new : Nat) (args : List AV) (K : Eff → Option β) : Option β :=
  match viewArgs H ss args with
  | some (x, bs, c) => ifK c ((law x).bind fun y => ifK ((newEnts rs y).all Ent.own) (K { rb := bs, wb := wbNew new (newEnts rs y), nw := (newEnts rs y).length, val := outV rs y new }))
  | none => none
def Reads.summ {P : Program} {f : FuncId} {ss rs : List Sh} {law : Sh.Ts ss → Option (Sh.Ts rs)} (hr : Reads P f ss rs law) : Summ P where
  f := f
  S := fun H new args K => readsS (P := P) ss rs law H new args K
  ok := by
    intro β H new args K r hs
    unfold readsS at hs
    split at hs
    case h_2 => cases hs
    rename_i x bs c hv
    obtain ⟨hc, hs⟩ := ifK_some hs
    rw [Option.bind_eq_some_iff] at hs
    obtain ⟨y, hy, hs⟩ := hs
    obtain ⟨hown, hs⟩ := ifK_some hs
    refine ⟨_, hs, fun Γ ρ h w cargs hI hargs hH hn hfree => ?_⟩
    obtain ⟨ρg, _, h1, h2, _⟩ := sim_views hI.sim.baseLe hI.sim.old (viewArgs_ok (Q := fun _ => True) hI.sim ss args _ hargs x bs c hv hH (fun _ _ => trivial) hc)
    refine (hr x y hy ρg w cargs h2 h1).mono fun e w' ⟨ρg', cv, he, hvv, hJ⟩ => ?_
    have hnl : (newEnts rs y).length = Sh.nes rs := by simp [newEnts, entss_length]
    obtain ⟨ρ', g1, g2, g3⟩ := after_pure hI (fun b blk hb => entss_norw hb) hown hJ hn hfree
    exact ⟨ρ', cv, he, g1, outV_shift rs y _ new (fun k hk => g2 k (by omega)) hvv, g3⟩
end Go.Ab
namespace Go.Ab
def outK {P : Program} (fn : Func) (rs : List Sh) (e : Exit) (t : List AV) (h : Heap) : Option (Sh.Ts rs) :=
  match okExit e with
  | true => (match resA P t h fn.results.toList with
    | some vs => (match viewArgs h.get rs vs with
      | some (y, _, c) => ifK c (some y)
      | none => none)
    | none => none)
  | false => none
def codeLaw (P : Program) (env : Env P) (fuel : Nat) (L : Loops P env.Y) (fn : Func) (c : Code) (ss rs : List Sh) (x : Sh.Ts ss) : Option (Sh.Ts rs) :=
  codeK P env (Sh.nes ss) fuel L [] (.code c) (Sh.args ss x 0 ++ List.replicate (fn.ntmps - ss.length) (.val undef)) (Sh.entss ss x) fun e t h => outK (P := P) fn rs e t h
theorem Loops.fit_nil {P : Program} {Y : Ctx → Prop} {C : Code} : Loops.fit C ([] : Loops P Y) := by intro s hs; simp at hs
theorem Loops.fit_cons {P : Program} {Y : Ctx → Prop} {C : Code} {p : List Nat} {s : LSumm P Y} {L : Loops P Y} (h : subAt C p = some s.c) (hL : Loops.fit C L) : Loops.fit C ((p, s) :: L) := by
  intro x hx
  rcases List.mem_cons.1 hx with rfl | hx
  · exact h
  · exact hL x hx
theorem run_results_list {P : Program} {Γ : Ctx} {ρ : Ren} {h : Heap} {w : World} (hI : Inv Γ ρ h w) {t : List AV} {a : Act} (hV : VRs ρ t a.tmps.toList) {fn : Func} {vs : List AV} (hres : resA P t h fn.results.toList = some vs) :
    ∃ us cv, (results fn a.tmps).run P w = .ok cv w ∧ VRs ρ vs us ∧ ∀ (ρ' : Ren) (vs' : List AV), VRs ρ' vs' us → VR ρ' (resV vs') cv := by
  obtain ⟨us, k1, k2⟩ := run_results (P := P) hI hV fn.results.toList vs hres
  have hsz := k2.length
  have h5 : (fn.results.mapM fun r : ResultVar => (match r with
      | .tmp t => pure (a.tmps.getD t undef)
      | .cell x t => do loadVar t (← asAddr (a.tmps.getD x undef)) : Sem Value)).run P w = .ok us.toArray w := by
    rw [Array.mapM_eq_mapM_toList, map_eq_pure_bind, Sem.run_bind]
    exact (congrArg (fun r => Result.andThen r fun a w' => Sem.run P (pure a.toArray) w') k1).trans rfl
  by_cases h1 : us.length = 1
  · match us, h1, k2, h5 with
    | [u], _, k2, h5 =>
      refine ⟨[u], u, ?_, k2, fun ρ' vs' hv => ?_⟩
      · unfold results
        rw [Sem.run_bind]
        refine Eq.trans (congrArg (fun r => Result.andThen r _) h5) ?_
        simp [Result.andThen, pure, Sem.run]
      · match vs', hv.length, hv with
        | [v1], _, hv => simp only [VRs] at hv; exact hv.1
  · refine ⟨us, .tuple us.toArray, ?_, k2, fun ρ' vs' hv => ?_⟩
    · unfold results
      rw [Sem.run_bind]
      refine Eq.trans (congrArg (fun r => Result.andThen r _) h5) ?_
      simp [Result.andThen, h1, pure, Sem.run]
    · have hl := hv.length
      have : resV vs' = .tup vs' := by
        unfold resV
        split
        · simp at hl; omega
        · rfl
      rw [this]; simp only [VR]; exact ⟨us.toArray, rfl, by simpa using hv⟩
theorem args_length : ∀ (l : List Sh) (y : Sh.Ts l) n, (Sh.args l y n).length = l.length
  | [], _, _ => rfl
  | s :: l, y, n => by simp [Sh.args, args_length l]
theorem settle {ρ ρ2 : Ren} {h0 h1 : Heap} {w w2 : World} (hS : Sim ρ h0 w) (hro : ∀ b blk, h0.get b = .live blk → blk.rw = false) (hI : Inv ⟨h0.length, ρ, h0, w⟩ ρ2 h1 w2) : Inv ⟨h0.length, ρ, h0, w⟩ ρ h0 w2 := by
  have notown : ∀ i, ¬ Ctx.owned ⟨h0.length, ρ, h0, w⟩ i := by
    rintro i ⟨b, blk, c, _, hb, hr, _⟩
    rw [hro b blk hb] at hr; cases hr
  have keep : ∀ i, i < w.heap.size → w2.heap[i]? = w.heap[i]? := fun i hi => hI.keep i hi (notown i)
  have hsz : w.heap.size ≤ w2.heap.size := hI.size
  have norw : ∀ b blk, h0.get b = .live blk → blk.rw = true → False := fun b blk hb hr => by rw [hro b blk hb] at hr; cases hr
  refine ⟨⟨hS.some_, fun b blk c hb hc => ?_, fun b blk c hb hc hs => ?_, fun b blk c hb hc hr => (norw b blk hb hr).elim, fun b b' blk blk' c c' hb hb' hne hc hc' hr => (norw b blk hb hr).elim, hS.dom, ?_, fun i hi => ?_, fun b blk c hb hc hr => (norw b blk hb hr).elim⟩, fun _ _ => rfl, rfl, hI.os, hI.tape, hI.output, hI.size, hI.keep, fun b blk c hb hc hr => (norw b blk hb hr).elim⟩
  · exact (hS.cells b blk c hb hc).of_cell fun hpos o => cell_of_heap (keep _ (hS.inside b blk c hb hc (.inl hpos))) o
  · have := hS.inside b blk c hb hc hs; omega
  · have := hS.baseLe; omega
  · rw [keep i (by have := hS.baseLe; omega)]; exact hS.old i hi
theorem Reads.of_code {P : Program} (hm : P.follows .mixedOrders = true) {f : FuncId} {fn : Func} {c : Code} (hf : P.funcs[f]? = some fn) (hb : fn.body = some c) (hname : (fn.name == "runtime.NumGoroutine") = false)
    (env : Env P) (fuel : Nat) {L : Loops P env.Y} (hL : L.fit c) {ss rs : List Sh} (hrs : Sh.nes rs = 0) (hy : ∀ Γ, env.Y Γ := by exact fun _ => True.intro) : Reads P f ss rs (codeLaw P env fuel L fn c ss rs) := by
  intro x y hxy ρ w cargs hsim hargs
  unfold codeLaw at hxy
  have hlen0 := entss_length ss x
  obtain ⟨e, t1, h1, hk, hn1, hg⟩ := codeK_ok hm fuel L [] (.code c) _ _ _ c hL (.inr rfl) (by omega) hxy
  unfold outK at hk
  split at hk
  case h_2 => cases hk
  rename_i hex
  split at hk
  case h_2 => cases hk
  rename_i vs hvs
  split at hk
  case h_2 => cases hk
  rename_i y' bs cc hview
  obtain ⟨hcc, hk⟩ := ifK_some hk
  injection hk with hk; subst hk
  unfold Invokes
  have hcall : (callFunc f cargs).run P w = .ok (.enter f cargs) w := by
    simp only [callFunc, program, Sem.run_bind, Sem.run, Result.andThen, hf]
    simp only [hname, hb, Option.isNone_some, Bool.false_eq_true, if_false]
    rfl
  rw [hcall]
  simp only
  have hlen := hargs.length
  rw [args_length] at hlen
  have hro : ∀ b blk, Heap.get (Sh.entss ss x) b = .live blk → blk.rw = false := fun b blk hb => entss_norw hb
  have hI : Inv ⟨(Sh.entss ss x).length, ρ, Sh.entss ss x, w⟩ ρ (Sh.entss ss x) w :=
    ⟨hsim, fun _ _ => rfl, rfl, rfl, rfl, rfl, Nat.le_refl _, fun _ _ _ => rfl, fun b blk d hb hd hrw hs => by rw [hro b blk hb] at hrw; cases hrw⟩
  have hV : VRs ρ (Sh.args ss x 0 ++ List.replicate (fn.ntmps - ss.length) (.val undef)) ({ tmps := cargs ++ Array.replicate (fn.ntmps - cargs.size) undef, defers := [] } : Act).tmps.toList := by
    simp only [Array.toList_append, Array.toList_replicate]
    refine hargs.append ?_
    rw [hlen]
    simpa using VRs.replicate (ρ := ρ) (a := .val undef) (v := undef) (by simp [VR]) (fn.ntmps - cargs.size)
  refine calls_of_runs hf hb hg hex hlen0 (hy _) hI hV fun ρ2 w2 a2 g2 g3 => ?_
  obtain ⟨us, cv, k1, k2, k3⟩ := run_results_list (P := P) g2 g3 hvs
  have hva := viewArgs_ok (Q := fun _ => True) g2.sim rs vs us k2 y' bs cc hview (fun b _ => rfl) (fun _ _ => trivial) hcc
  have hout : VR ρ (outV rs y' (Sh.entss ss x).length) cv := by
    obtain ⟨c0, hc0, hvv⟩ := hva
    have : c0 = [] := List.length_eq_zero_iff.1 (by rw [hc0, hrs])
    subst this
    refine k3 ρ _ ?_
    have := (hvv ⟨ρ.f, ρ2.base⟩ 0 rfl (fun i d hi => by simp at hi)).1
    exact args_shift rs y' 0 _ (fun k hk => by omega) us this
  have hset := settle hsim hro g2
  have hnew : newEnts rs y' = [] := List.length_eq_zero_iff.1 (by simp [newEnts, entss_length, hrs])
  have hfin : ∃ ρ' cv', cv = cv' ∧ VR ρ' (outV rs y' (Sh.entss ss x).length) cv' ∧ Inv ⟨(Sh.entss ss x).length, ρ, Sh.entss ss x, w⟩ ρ' (Sh.entss ss x ++ newEnts rs y') w2 :=
    ⟨ρ, cv, rfl, hout, by rw [hnew, List.append_nil]; exact hset⟩
  obtain ⟨ρ', cv', h7, h8, h9⟩ := hfin
  subst h7
  exact ⟨cv, k1, ρ', cv, rfl, h8, h9⟩
theorem Reads.to {P : Program} {f : FuncId} {ss rs : List Sh} {law law' : Sh.Ts ss → Option (Sh.Ts rs)} (h : Reads P f ss rs law) (he : ∀ x, law x = law' x) : Reads P f ss rs law' := fun x y hxy => h x y (by rw [he]; exact hxy)
end Go.Ab
namespace Go.Ab
def posOf (b : Nat) : List Nat → Nat → Option Nat
  | [], _ => none
  | x :: l, i => if x = b then some i else posOf b l (i + 1)
theorem posOf_some {b : Nat} : ∀ (l : List Nat) (i k : Nat), posOf b l i = some k → i ≤ k ∧ l[k - i]? = some b
  | [], i, k, h => by simp [posOf] at h
  | x :: l, i, k, h => by
    simp only [posOf] at h
    split at h
    · rename_i hx; injection h with h; subst h; subst hx; simp
    · obtain ⟨h1, h2⟩ := posOf_some l (i + 1) k h
      refine ⟨by omega, ?_⟩
      rw [show k - i = (k - (i + 1)) + 1 by omega]; simpa using h2
mutual
def unA (σ : List Nat) : AV → Option AV
  | .ptr b o => match posOf b σ 0 with
    | some i => some (.ptr i o)
    | none => none
  | .elt b o j w f => match posOf b σ 0 with
    | some i => some (.elt i o j w f)
    | none => none
  | .slc b o n c => match posOf b σ 0 with
    | some i => some (.slc i o n c)
    | none => none
  | .fn f a b => match unL σ a, unL σ b with
    | some x, some y => some (.fn f x y)
    | _, _ => none
  | .agg l => match unL σ l with
    | some x => some (.agg x)
    | none => none
  | .tup l => match unL σ l with
    | some x => some (.tup x)
    | none => none
  | .ifc t v => match unA σ v with
    | some x => some (.ifc t x)
    | none => none
  | .any => some .any
  | .val v => some (.val v)
def unL (σ : List Nat) : List AV → Option (List AV)
  | [] => some []
  | a :: l => match unA σ a, unL σ l with
    | some x, some y => some (x :: y)
    | _, _ => none
end
def sig (σ : List Nat) : List (Nat × Nat) := σ.map fun x => (x, 0)
theorem renB_un {σ : List Nat} {b i : Nat} (h : posOf b σ 0 = some i) (o : Nat) : renB (sig σ) σ.length 0 i o = (b, o) ∧ i < σ.length := by
  obtain ⟨_, h2⟩ := posOf_some σ 0 i h
  simp only [Nat.sub_zero] at h2
  have hlt := (List.getElem?_eq_some_iff.1 h2).1
  refine ⟨?_, hlt⟩
  unfold renB
  rw [if_pos hlt]
  simp [sig, h2]
mutual
theorem unA_ok {σ : List Nat} : ∀ (a x : AV), unA σ a = some x → renA (sig σ) σ.length 0 x = a ∧ okA σ.length x = true
  | .ptr b o, x, h => by
    simp only [unA] at h
    split at h
    case h_2 => cases h
    rename_i i hi
    injection h with h; subst h
    obtain ⟨h1, h2⟩ := renB_un hi o
    simp [renA, okA, h1, h2]
  | .elt b o j w f, x, h => by
    simp only [unA] at h
    split at h
    case h_2 => cases h
    rename_i i hi
    injection h with h; subst h
    obtain ⟨h1, h2⟩ := renB_un hi o
    simp [renA, okA, h1, h2]
  | .slc b o n c, x, h => by
    simp only [unA] at h
    split at h
    case h_2 => cases h
    rename_i i hi
    injection h with h; subst h
    obtain ⟨h1, h2⟩ := renB_un hi o
    simp [renA, okA, h1, h2]
  | .fn f a b, x, h => by
    simp only [unA] at h
    split at h
    case h_2 => cases h
    rename_i y z hy hz
    injection h with h; subst h
    obtain ⟨h1, h2⟩ := unL_ok a y hy
    obtain ⟨h3, h4⟩ := unL_ok b z hz
    simp [renA, okA, h1, h2, h3, h4]
  | .agg l, x, h => by
    simp only [unA] at h
    split at h
    case h_2 => cases h
    rename_i y hy
    injection h with h; subst h
    obtain ⟨h1, h2⟩ := unL_ok l y hy
    simp [renA, okA, h1, h2]
  | .tup l, x, h => by
    simp only [unA] at h
    split at h
    case h_2 => cases h
    rename_i y hy
    injection h with h; subst h
    obtain ⟨h1, h2⟩ := unL_ok l y hy
    simp [renA, okA, h1, h2]
  | .ifc t v, x, h => by
    simp only [unA] at h
    split at h
    case h_2 => cases h
    rename_i y hy
    injection h with h; subst h
    obtain ⟨h1, h2⟩ := unA_ok v y hy
    simp [renA, okA, h1, h2]
  | .any, x, h => by simp only [unA] at h; injection h with h; subst h; simp [renA, okA]
  | .val v, x, h => by simp only [unA] at h; injection h with h; subst h; simp [renA, okA]
theorem unL_ok {σ : List Nat} : ∀ (a x : List AV), unL σ a = some x → renL (sig σ) σ.length 0 x = a ∧ okL σ.length x = true
  | [], x, h => by simp only [unL] at h; injection h with h; subst h; simp [renL, okL]
  | a :: l, x, h => by
    simp only [unL] at h
    split at h
    case h_2 => cases h
    rename_i y z hy hz
    injection h with h; subst h
    obtain ⟨h1, h2⟩ := unA_ok a y hy
    obtain ⟨h3, h4⟩ := unL_ok l z hz
    simp [renL, okL, h1, h2, h3, h4]
end
theorem adapt1_self (a : AV) : a.adapt1 a = a := by
  cases a with
  | slc b o n c => cases c <;> rfl
  | _ => rfl
mutual
theorem adapt_self : ∀ a : AV, adapt a a = a
  | .agg l => by simp only [adapt]; rw [adapts_self l]
  | .fn f a b => by simp only [adapt]; rw [adapts_self a, adapts_self b]
  | .any => rfl
  | .val v => by simp only [adapt]; exact adapt1_self _
  | .ptr b o => by simp only [adapt]; exact adapt1_self _
  | .elt b o i w f => by simp only [adapt]; exact adapt1_self _
  | .slc b o n c => by simp only [adapt]; exact adapt1_self _
  | .tup l => by simp only [adapt]; exact adapt1_self _
  | .ifc t v => by simp only [adapt]; exact adapt1_self _
theorem adapts_self : ∀ l : List AV, adapts l l = l
  | [] => by simp [adapts]
  | a :: l => by simp only [adapts]; rw [adapt_self a, adapts_self l]
end
def unT (σ : List Nat) (keep : List Nat) : Nat → List AV → Option (List AV)
  | _, [] => some []
  | i, a :: l => match (if keep.contains i then unA σ a else some .any), unT σ keep (i + 1) l with
    | some x, some y => some (x :: y)
    | _, _ => none
theorem unT_ok {σ : List Nat} {keep : List Nat} : ∀ (l : List AV) (i : Nat) (x : List AV), unT σ keep i l = some x → adapts (renL (sig σ) σ.length 0 x) l = renL (sig σ) σ.length 0 x ∧ okL σ.length x = true
  | [], i, x, h => by simp only [unT] at h; injection h with h; subst h; simp [renL, okL, adapts]
  | a :: l, i, x, h => by
    simp only [unT] at h
    split at h
    case h_2 => cases h
    rename_i y z hy hz
    injection h with h; subst h
    obtain ⟨h3, h4⟩ := unT_ok l (i + 1) z hz
    split at hy
    · obtain ⟨h1, h2⟩ := unA_ok a y hy
      simp only [renL, okL, adapts, h1, h2, h3, h4, Bool.and_self, and_true]
      rw [adapt_self]
    · injection hy with hy; subst hy
      simp only [renL, renA, okL, okA, adapts, h3, h4, Bool.and_self, and_true]
      rw [show adapt .any a = .any from by simp only [adapt]; rfl]
def addB (b : Nat) (σ : List Nat) : List Nat := if σ.contains b then σ else σ ++ [b]
mutual
def blksA : AV → List Nat → List Nat
  | .ptr b _, σ => addB b σ
  | .elt b _ _ _ _, σ => addB b σ
  | .slc b _ _ _, σ => addB b σ
  | .fn _ a b, σ => blksL b (blksL a σ)
  | .agg l, σ => blksL l σ
  | .tup l, σ => blksL l σ
  | .ifc _ v, σ => blksA v σ
  | .any, σ => σ
  | .val _, σ => σ
def blksL : List AV → List Nat → List Nat
  | [], σ => σ
  | a :: l, σ => blksL l (blksA a σ)
end
def blksT (keep : List Nat) : Nat → List AV → List Nat → List Nat
  | _, [], σ => σ
  | i, a :: l, σ => blksT keep (i + 1) l (if keep.contains i then blksA a σ else σ)
def blksH (h : Heap) : Nat → Nat → List Nat → List Nat
  | 0, _, σ => σ
  | f + 1, i, σ => match σ[i]? with
    | none => σ
    | some b => blksH h f (i + 1) (match h.get b with
      | .live blk => (match blk.cells with
        | .lit l => blksL l σ
        | _ => σ)
      | _ => σ)
def unEnt (σ : List Nat) : Ent → Option Ent
  | .free => none
  | .dead => some .dead
  | .live blk => match blk.cells with
    | .lit l => (match unL σ l with
      | some x => some (.live { blk with cells := .lit x })
      | none => none)
    | _ => some (.live blk)
def unEnts (σ : List Nat) (h : Heap) : List Nat → Option (List Ent)
  | [] => some []
  | b :: l => match unEnt σ (h.get b), unEnts σ h l with
    | some e, some es => some (e :: es)
    | _, _ => none
def gcK {β : Type} (n0 : Nat) (keep : List Nat) (t : List AV) (h : Heap) (K : List AV → Heap → Option β) : Option β :=
  let σ := blksH h 1000 0 (blksT keep 0 t (List.range n0))
  match unT σ keep 0 t, unEnts σ h σ with
  | some t2, some h2 => if n0 ≤ σ.length ∧ startsSame n0 0 σ = true ∧ distinct σ = true then K t2 h2 else none
  | _, _ => none
theorem unEnts_ok {σ : List Nat} {h : Heap} : ∀ (l : List Nat) (es : List Ent), unEnts σ h l = some es → es.length = l.length ∧ okEnts σ.length es = true ∧
    (∃ obs, blockObs (sig σ) σ.length h (l.map fun x => (x, 0)) es = some obs ∧ ∀ p ∈ obs, p.holds)
  | [], es, hs => by simp only [unEnts] at hs; injection hs with hs; subst hs; exact ⟨rfl, rfl, [], rfl, by simp⟩
  | b :: l, es, hs => by
    simp only [unEnts] at hs
    split at hs
    case h_2 => cases hs
    rename_i e es' he hes
    injection hs with hs; subst hs
    obtain ⟨h1, h2, obs, h3, h4⟩ := unEnts_ok l es' hes
    unfold unEnt at he
    split at he
    · cases he
    · injection he with he; subst he
      exact ⟨by simp [h1], by simpa [okEnts] using h2, obs, by simpa [blockObs] using h3, h4⟩
    · rename_i blk hblk
      split at he
      · rename_i cs hcs
        split at he
        case h_2 => cases he
        rename_i x hx
        injection he with he; subst he
        obtain ⟨k1, k2⟩ := unL_ok cs x hx
        refine ⟨by simp [h1], by simp [okEnts, okCells, k2, h2], _, by simp only [List.map_cons, blockObs, h3, Option.map_some]; rfl, ?_⟩
        intro p hp
        rcases List.mem_cons.1 hp with rfl | hp
        · show h.get b = _
          rw [hblk]
          simp only [renBlk, renCells, k1, ← hcs]
        · exact h4 p hp
      · rename_i hnl
        injection he with he; subst he
        have hok : okCells σ.length blk.cells = true := by
          cases hc : blk.cells with
          | lit cs => exact absurd hc (hnl cs)
          | _ => rfl
        have hren : renBlk (sig σ) σ.length 0 blk = blk := by
          unfold renBlk
          cases hc : blk.cells with
          | lit cs => exact absurd hc (hnl cs)
          | _ => simp only [renCells]; rw [← hc]
        refine ⟨by simp [h1], by simp [okEnts, hok, h2], _, by simp only [List.map_cons, blockObs, h3, Option.map_some]; rfl, ?_⟩
        intro p hp
        rcases List.mem_cons.1 hp with rfl | hp
        · show h.get b = _
          rw [hblk, hren]
        · exact h4 p hp
theorem gcK_ok {β : Type} {n0 : Nat} {keep : List Nat} {t : List AV} {h : Heap} {K : List AV → Heap → Option β} {r : β} (hs : gcK n0 keep t h K = some r) :
    ∃ t2 h2, K t2 h2 = some r ∧ n0 ≤ h2.length ∧ ∃ σ l, weakObs n0 σ t t2 h h2 = some l ∧ ∀ p ∈ l, p.holds := by
  unfold gcK at hs
  simp only at hs
  generalize blksH h 1000 0 (blksT keep 0 t (List.range n0)) = σ at hs
  split at hs
  case h_2 => cases hs
  rename_i t2 h2 ht hh
  split at hs
  case isFalse => cases hs
  rename_i hc
  obtain ⟨k1, k2⟩ := unT_ok t 0 t2 ht
  obtain ⟨k3, k4, obs, k5, k6⟩ := unEnts_ok σ h2 hh
  refine ⟨t2, h2, hs, by rw [k3]; exact hc.1, σ, Ob.avs (adapts (renL (sig σ) σ.length 0 t2) t) (renL (sig σ) σ.length 0 t2) :: obs, ?_, ?_⟩
  · unfold weakObs
    simp only [k3]
    rw [if_pos ⟨trivial, hc.1, hc.2.1, hc.2.2, by simp [k2, k4]⟩]
    show (blockObs (sig σ) σ.length h (sig σ) h2).map _ = _
    rw [show sig σ = σ.map fun x => (x, 0) from rfl] at k5 ⊢
    rw [k5]; rfl
  · intro p hp
    rcases List.mem_cons.1 hp with rfl | hp
    · exact k1
    · exact k6 p hp
end Go.Ab
namespace Go.Ab
def roundK {β : Type} (P : Program) (env : Env P) (n0 fuel : Nat) (L : Loops P env.Y) (b : Code) (keep : List Nat) (keepX : Exit → List Nat) (A : List AV → Heap → Option β) (K : Exit → List AV → Heap → Option β) (t : List AV) (h : Heap) : Option β :=
  codeK P env n0 fuel L [] (.code b) t h fun e t' h' => match e with
    | .normal => gcK n0 keep t' h' A
    | e => gcK n0 (keepX e) t' h' fun t2 h2 => K e t2 h2
def roundEnd {β : Type} (n0 : Nat) (keep : List Nat) (keepX : Exit → List Nat) (A : List AV → Heap → Option β) (K : Exit → List AV → Heap → Option β) : Exit → List AV → Heap → Option β := fun e t' h' => match e with
    | .normal => gcK n0 keep t' h' A
    | e => gcK n0 (keepX e) t' h' fun t2 h2 => K e t2 h2
def loopN {β : Type} (P : Program) (env : Env P) (n0 fuel : Nat) (L : Loops P env.Y) (b : Code) (keep : List Nat) (keepX : Exit → List Nat) : Nat → List AV → Heap → (Exit → List AV → Heap → Option β) → Option β
  | 0, _, _, _ => none
  | n + 1, t, h, K => roundK P env n0 fuel L b keep keepX (fun t2 h2 => loopN P env n0 fuel L b keep keepX n t2 h2 K) K t h
theorem loopN_ok {β : Type} {P : Program} (hm : P.follows .mixedOrders = true) {env : Env P} {n0 fuel : Nat} {L : Loops P env.Y} {b : Code} (hL : L.fit b) {keep : List Nat} {keepX : Exit → List Nat} {K : Exit → List AV → Heap → Option β} {r : β} :
    ∀ (n : Nat) (t : List AV) (h : Heap), n0 ≤ h.length → loopN P env n0 fuel L b keep keepX n t h K = some r → ∃ e t' h', K e t' h' = some r ∧ ∃ m, Rounds P env.Y n0 m b t h e t' h'
  | 0, t, h, _, hs => by simp [loopN] at hs
  | n + 1, t, h, hn, hs => by
    simp only [loopN, roundK] at hs
    obtain ⟨e, t1, h1, hk, hn1, hg⟩ := codeK_ok hm fuel L [] (.code b) t h _ b hL (.inr rfl) hn hs
    have leave : e ≠ .normal → gcK n0 (keepX e) t1 h1 (fun t2 h2 => K e t2 h2) = some r → ∃ e t' h', K e t' h' = some r ∧ ∃ m, Rounds P env.Y n0 m b t h e t' h' := by
      intro he hs
      obtain ⟨t2, h2, hk2, hn2, σ, l, hw, hob⟩ := gcK_ok hs
      exact ⟨e, t2, h2, hk2, 1, Rounds.leave (Runs.weak hg hw hob hn2) he⟩
    cases e with
    | normal =>
      simp only at hk
      obtain ⟨t2, h2, hk2, hn2, σ, l, hw, hob⟩ := gcK_ok hk
      obtain ⟨e, t3, h3, hk3, m, hr⟩ := loopN_ok hm hL n t2 h2 hn2 hk2
      exact ⟨e, t3, h3, hk3, m + 1, Rounds.step hg hw hob hr⟩
    | _ => exact leave (by simp) hk
theorem Runs.weak_in {P : Program} {Y : Ctx → Prop} {n0 : Nat} {c : Code} {t t2 t' : List AV} {h h2 h' : Heap} {e : Exit} (hr : Runs P Y n0 c t2 h2 e t' h') {σ : List Nat} {l : List Ob} (hw : weakObs n0 σ t t2 h h2 = some l) (hob : ∀ p ∈ l, p.holds) : Runs P Y n0 c t h e t' h' := by
  refine ⟨hr.1, fun Γ hΓ hY fr ρ w a hI hV hd => ?_⟩
  obtain ⟨_, ρ2, g1, g2⟩ := weak_ok hw hob hΓ hI hV
  exact hr.2 Γ hΓ hY fr ρ2 w a g1 g2 hd
def emptyB : Blk := { cells := .arr (.int .u8) [], rw := true, grow := some 1 }
def wideT (i : Nat) (t : List AV) (h : Heap) : List AV × Heap := match t[i]? with
  | some (.val (.slice none 0 0)) => (t.set i (.slc h.length 0 0 .unk), h.upd h.length (.live emptyB))
  | _ => (t, h)
def wideH (i f : Nat) (t : List AV) (h : Heap) : List AV × Heap := match t[i]? with
  | some (.ptr b o) => (match h.get b with
    | .live blk => (match blk.cells with
      | .lit l => (match l[o + f]? with
        | some (.val (.slice none 0 0)) => (t, (h.upd h.length (.live emptyB)).upd b (.live { blk with cells := .lit (l.set (o + f) (.slc h.length 0 0 .unk)) }))
        | _ => (t, h))
      | _ => (t, h))
    | _ => (t, h))
  | _ => (t, h)
def wideS : List (Nat × Option Nat) → List AV → Heap → List AV × Heap
  | [], t, h => (t, h)
  | (i, none) :: ws, t, h => wideS ws (wideT i t h).1 (wideT i t h).2
  | (i, some f) :: ws, t, h => wideS ws (wideH i f t h).1 (wideH i f t h).2
def Wide (n0 : Nat) (t : List AV) (h : Heap) (t2 : List AV) (h2 : Heap) : Prop :=
  n0 ≤ h2.length ∧ ∀ (Γ : Ctx) (ρ : Ren) (w : World) (cs : List Value), Γ.n0 = n0 → Inv Γ ρ h w → VRs ρ t cs → ∃ ρ2, Inv Γ ρ2 h2 w ∧ VRs ρ2 t2 cs
theorem Wide.refl {n0 : Nat} {t : List AV} {h : Heap} (hn : n0 ≤ h.length) : Wide n0 t h t h := ⟨hn, fun _ ρ _ _ _ hI hV => ⟨ρ, hI, hV⟩⟩
theorem Wide.trans {n0 : Nat} {t t2 t3 : List AV} {h h2 h3 : Heap} (a : Wide n0 t h t2 h2) (b : Wide n0 t2 h2 t3 h3) : Wide n0 t h t3 h3 := ⟨b.1, fun Γ ρ w cs hΓ hI hV => by
  obtain ⟨ρ2, h1, h2⟩ := a.2 Γ ρ w cs hΓ hI hV
  exact b.2 Γ ρ2 w cs hΓ h1 h2⟩
theorem len_upd (h : Heap) (b : Nat) (e : Ent) : h.length ≤ (h.upd b e).length := by
  unfold Heap.upd
  split
  · simp
  · simp
theorem get_free (h : Heap) : h.get h.length = .free := by simp [Heap.get]
theorem Inv.emptyB {Γ : Ctx} {ρ : Ren} {h : Heap} {w : World} (hI : Inv Γ ρ h w) (hn : Γ.n0 ≤ h.length) : ρ.le (ρ.put h.length (0, 0, 0)) ∧ Inv Γ (ρ.put h.length (0, 0, 0)) (h.upd h.length (.live emptyB)) w :=
  hI.addEmpty hn (get_free h) (.arr (.int .u8) []) rfl (fun ρ w cb co i v hv => by simp [Sh.flatl] at hv) (some 1)
theorem wideT_ok {n0 : Nat} (i : Nat) {t : List AV} {h : Heap} (hn : n0 ≤ h.length) : Wide n0 t h (wideT i t h).1 (wideT i t h).2 := by
  unfold wideT
  split
  · rename_i hi
    refine ⟨Nat.le_trans hn (len_upd _ _ _), fun Γ ρ w cs hΓ hI hV => ?_⟩
    obtain ⟨hle, hI2⟩ := hI.emptyB (by omega)
    refine ⟨_, hI2, ?_⟩
    obtain ⟨v, hv, hr⟩ := hV.get i _ hi
    have hve : v = .slice none 0 0 := by simpa [VR] using hr
    have hs : cs.set i v = cs := by
      apply List.ext_getElem?
      intro j
      rw [List.getElem?_set]
      by_cases hj : i = j
      · subst hj; rw [if_pos rfl, if_pos (List.getElem?_eq_some_iff.1 hv).1, hv]
      · rw [if_neg hj]
    rw [← hs]
    refine VRs.set (VRs.mono hle _ _ hV) i ?_
    rw [hve]; simp only [VR]
    exact .inr ⟨trivial, none, rfl⟩
  · exact Wide.refl hn
theorem wideH_ok {n0 : Nat} (i f : Nat) {t : List AV} {h : Heap} (hn : n0 ≤ h.length) : Wide n0 t h (wideH i f t h).1 (wideH i f t h).2 := by
  unfold wideH
  split
  case h_2 => exact Wide.refl hn
  rename_i b o hi
  split
  case h_2 => exact Wide.refl hn
  rename_i blk hb
  split
  case h_2 => exact Wide.refl hn
  rename_i l hl
  split
  case h_2 => exact Wide.refl hn
  rename_i hnil
  refine ⟨Nat.le_trans (Nat.le_trans hn (len_upd _ _ _)) (len_upd _ _ _), fun Γ ρ w cs hΓ hI hV => ?_⟩
  obtain ⟨hle, hI2⟩ := hI.emptyB (by omega)
  refine ⟨_, ?_, VRs.mono hle _ _ hV⟩
  have hne : b ≠ h.length := fun e => by rw [e, get_free] at hb; cases hb
  have hb2 : (h.upd h.length (.live emptyB)).get b = .live blk := by rw [Heap.get_upd, if_neg hne]; exact hb
  refine hI2.recell hb2 (.lit (l.set (o + f) (.slc h.length 0 0 .unk))) (by rw [hl]; show (l.set _ _).length ≤ l.length; simp) fun c hc => ?_
  have hat := hI2.sim.cells b blk c hb2 hc
  rw [hl] at hat
  intro k v hk
  have hat : ∀ k v, l[k]? = some v → ∃ cv, w.cell? ⟨c.1, c.2.1 + k, none⟩ = some cv ∧ VR (ρ.put h.length (0, 0, 0)) v cv := hat
  rw [List.getElem?_set] at hk
  split at hk
  · rename_i hkk
    subst hkk
    split at hk
    case isFalse => cases hk
    injection hk with hk
    subst hk
    obtain ⟨cv, h1, h2⟩ := hat _ _ hnil
    refine ⟨cv, h1, ?_⟩
    have hve : cv = .slice none 0 0 := by simpa [VR] using h2
    rw [hve]; simp only [VR]
    exact .inr ⟨trivial, none, rfl⟩
  · exact hat k v hk
theorem wideS_ok {n0 : Nat} : ∀ (ws : List (Nat × Option Nat)) {t : List AV} {h : Heap}, n0 ≤ h.length → Wide n0 t h (wideS ws t h).1 (wideS ws t h).2
  | [], _, _, hn => Wide.refl hn
  | (i, none) :: ws, t, h, hn => (wideT_ok i hn).trans (wideS_ok ws (wideT_ok i hn).1)
  | (i, some f) :: ws, t, h, hn => (wideH_ok i f hn).trans (wideS_ok ws (wideH_ok i f hn).1)
theorem Runs.wide_in {P : Program} {Y : Ctx → Prop} {n0 : Nat} {c : Code} {t t2 t' : List AV} {h h2 h' : Heap} {e : Exit} (hr : Runs P Y n0 c t2 h2 e t' h') (hw : Wide n0 t h t2 h2) : Runs P Y n0 c t h e t' h' := by
  refine ⟨hr.1, fun Γ hΓ hY fr ρ w a hI hV hd => ?_⟩
  obtain ⟨ρ2, g1, g2⟩ := hw.2 Γ ρ w _ hΓ hI hV
  exact hr.2 Γ hΓ hY fr ρ2 w a g1 g2 hd
def loopSumm {P : Program} (hm : P.follows .mixedOrders = true) (env : Env P) (fuel : Nat) (L : Loops P env.Y) (b : Code) (hL : L.fit b) (keep : List Nat) (keepX : Exit → List Nat) (N : Nat) (ws : List (Nat × Option Nat) := []) : LSumm P env.Y where
  c := .loop b
  S := fun n0 t h K => gcK n0 keep (wideS ws t h).1 (wideS ws t h).2 fun t2 h2 => loopN P env n0 fuel L b keep keepX N t2 h2 K
  ok := by
    intro β n0 t h K r hn hs
    obtain ⟨t2, h2, hk2, hn2, σ, l, hw, hob⟩ := gcK_ok hs
    obtain ⟨e, t3, h3, hk3, m, hr⟩ := loopN_ok hm hL N t2 h2 hn2 hk2
    exact ⟨e, t3, h3, hk3, (Runs.weak_in (Runs.of_rounds hr) hw hob).wide_in (wideS_ok ws hn)⟩
def seqK {β : Type} (P : Program) (env : Env P) (n0 f : Nat) (L : Loops P env.Y) (p : List Nat) (b : Code) (K : Exit → List AV → Heap → Option β) : Exit → List AV → Heap → Option β := fun e t' h' => match e with
    | .normal => codeK P env n0 f L p (.code b) t' h' K
    | e => K e t' h'
def blkK {β : Type} (id : Nat) (K : Exit → List AV → Heap → Option β) : Exit → List AV → Heap → Option β := fun e t' h' => K (blockExit id e) t' h'
end Go.Ab
namespace Go.Ab
def Ren.below (ρ : Ren) (n : Nat) : Ren := ⟨fun b => if b < n then ρ b else none, ρ.base⟩
theorem Ren.below_lt {ρ : Ren} {n b : Nat} (h : b < n) : ρ.below n b = ρ b := by simp [Ren.below, h]
mutual
theorem VR.below {ρ : Ren} {n : Nat} : ∀ (v : AV) (cv : Value), okA n v = true → VR ρ v cv → VR (ρ.below n) v cv
  | .any, _, _, _ => by simp [VR]
  | .val v, cv, _, h => by simpa [VR] using h
  | .ptr b o, cv, hk, h => by
    simp only [okA, decide_eq_true_eq] at hk
    simp only [VR] at *
    rw [Ren.below_lt hk]; exact h
  | .elt b o i w f, cv, hk, h => by
    simp only [okA, decide_eq_true_eq] at hk
    simp only [VR] at *
    rw [Ren.below_lt hk]; exact h
  | .slc b o n' (.exact c), cv, hk, h => by
    simp only [okA, decide_eq_true_eq] at hk
    simp only [VR] at *
    rw [Ren.below_lt hk]; exact h
  | .slc b o n' .unk, cv, hk, h => by
    simp only [okA, decide_eq_true_eq] at hk
    simp only [VR] at *
    rw [Ren.below_lt hk]; exact h
  | .slc b o n' .low, cv, hk, h => by
    simp only [okA, decide_eq_true_eq] at hk
    simp only [VR] at *
    rw [Ren.below_lt hk]; exact h
  | .slc b o n' .part, cv, hk, h => by
    simp only [okA, decide_eq_true_eq] at hk
    simp only [VR] at *
    rw [Ren.below_lt hk]; exact h
  | .slc b o n' .nn, cv, hk, h => by
    simp only [okA, decide_eq_true_eq] at hk
    simp only [VR] at *
    rw [Ren.below_lt hk]; exact h
  | .fn f fs cs, cv, hk, h => by
    simp only [okA, Bool.and_eq_true] at hk
    simp only [VR] at *
    obtain ⟨fs', cs', h1, h2, h3⟩ := h
    exact ⟨fs', cs', h1, VRs.below _ _ hk.1 h2, VRs.below _ _ hk.2 h3⟩
  | .agg cs, cv, hk, h => by
    simp only [okA] at hk
    simp only [VR] at *
    obtain ⟨cs', h1, h2⟩ := h
    exact ⟨cs', h1, VRs.below _ _ hk h2⟩
  | .tup cs, cv, hk, h => by
    simp only [okA] at hk
    simp only [VR] at *
    obtain ⟨cs', h1, h2⟩ := h
    exact ⟨cs', h1, VRs.below _ _ hk h2⟩
  | .ifc t v, cv, hk, h => by
    simp only [okA] at hk
    simp only [VR] at *
    obtain ⟨v', h1, h2⟩ := h
    exact ⟨v', h1, VR.below _ _ hk h2⟩
theorem VRs.below {ρ : Ren} {n : Nat} : ∀ (vs : List AV) (cvs : List Value), okL n vs = true → VRs ρ vs cvs → VRs (ρ.below n) vs cvs
  | [], [], _, _ => by simp [VRs]
  | a :: as, v :: vs, hk, h => by
    simp only [okL, Bool.and_eq_true] at hk
    simp only [VRs] at *
    exact ⟨VR.below _ _ hk.1 h.1, VRs.below _ _ hk.2 h.2⟩
  | [], _ :: _, _, h => by simp [VRs] at h
  | _ :: _, [], _, h => by simp [VRs] at h
end
theorem CellsAt.below {ρ : Ren} {n : Nat} {w : World} {cb co : Nat} {cs : Cells} (hk : okCells n cs = true) (h : CellsAt ρ w cb co cs) : CellsAt (ρ.below n) w cb co cs := by
  cases cs with
  | lit l =>
    intro i v hi
    obtain ⟨cv, h1, h2⟩ := h i v hi
    exact ⟨cv, h1, VR.below _ _ (okL_get hk hi) h2⟩
  | sym l => exact h
  | rows l => exact h
  | arr s l => exact h
  | arrs s l => exact h
theorem Sim.below {ρ : Ren} {h : Heap} {w : World} (hs : Sim ρ h w) {hp : Heap} (hsub : ∀ b blk, hp.get b = .live blk → ∃ blk' : Blk, h.get b = .live blk' ∧ blk'.cells = blk.cells ∧ (blk.rw = true → blk' = blk)) (hf : ∀ b, b < hp.length → hp.get b = .free → h.get b = .free) (hok : okEnts hp.length hp = true) : Sim (ρ.below hp.length) hp w := by
  have lt_of : ∀ i blk, hp.get i = .live blk → i < hp.length ∧ hp[i]? = some (.live blk) := fun i blk hi => by
    rcases Nat.lt_or_ge i hp.length with h' | h'
    · refine ⟨h', ?_⟩
      rw [Heap.get, List.getD_eq_getElem?_getD, List.getElem?_eq_getElem h'] at hi
      rw [List.getElem?_eq_getElem h']; simpa using hi
    · simp [Heap.get, List.getD_eq_getElem?_getD, List.getElem?_eq_none h'] at hi
  have solid_up : ∀ (blk blk' : Blk) c, blk'.cells = blk.cells → (blk.rw = true → blk' = blk) → blk.solid c → blk'.solid c := fun blk blk' c h1 h2 h3 => by
    rcases h3 with h3 | h3
    · exact .inl (by rw [h1]; exact h3)
    · rw [h2 h3.1]; exact .inr h3
  refine ⟨fun b blk hb => ?_, fun b blk c hb hc => ?_, fun b blk c hb hc h9 => ?_, fun b blk c hb hc hr h9 => ?_, fun b b' blk blk' c c' hb hb' hne hc hc' hr h8 h9 => ?_, fun b hb => ?_, hs.baseLe, hs.old, fun b blk c hb hc hr h9 => ?_⟩
  · obtain ⟨q, k1, k2, k3⟩ := hsub b blk hb
    rw [Ren.below_lt (lt_of b blk hb).1]; exact hs.some_ b q k1
  · obtain ⟨q, k1, k2, k3⟩ := hsub b blk hb
    rw [Ren.below_lt (lt_of b blk hb).1] at hc
    have := hs.cells b q c k1 hc
    rw [k2] at this
    exact CellsAt.below (okEnts_get hok (lt_of b blk hb).2) this
  · obtain ⟨q, k1, k2, k3⟩ := hsub b blk hb
    rw [Ren.below_lt (lt_of b blk hb).1] at hc; exact hs.inside b q c k1 hc (solid_up _ _ _ k2 k3 h9)
  · obtain ⟨q, k1, k2, k3⟩ := hsub b blk hb
    rw [k3 hr] at k1
    rw [Ren.below_lt (lt_of b blk hb).1] at hc; exact hs.own b blk c k1 hc hr h9
  · obtain ⟨q, k1, k2, k3⟩ := hsub b blk hb
    obtain ⟨q', k1', k2', k3'⟩ := hsub b' blk' hb'
    rw [k3 hr] at k1
    rw [Ren.below_lt (lt_of b blk hb).1] at hc
    rw [Ren.below_lt (lt_of b' blk' hb').1] at hc'
    exact hs.apart b b' blk q' c c' k1 k1' hne hc hc' hr h8 (solid_up _ _ _ k2' k3' h9)
  · by_cases hl : b < hp.length
    · rw [Ren.below_lt hl]; exact hs.dom b (hf b hl hb)
    · simp [Ren.below, hl]
  · obtain ⟨q, k1, k2, k3⟩ := hsub b blk hb
    rw [k3 hr] at k1
    rw [Ren.below_lt (lt_of b blk hb).1] at hc; exact hs.above b blk c k1 hc hr h9
theorem after_call {Γ : Ctx} {ρ : Ren} {h : Heap} {w : World} (hI : Inv Γ ρ h w) {hp : Heap} (hsub : ∀ b blk, hp.get b = .live blk → ∃ blk' : Blk, h.get b = .live blk' ∧ blk'.cells = blk.cells ∧ (blk.rw = true → blk' = blk)) {ρ2 : Ren} {w' : World} {h' : Heap} (hJ : Inv ⟨hp.length, ρ.below hp.length, hp, w⟩ ρ2 h' w')
    (hn : Γ.n0 ≤ hp.length) {nw : Nat} (hnw : h'.length = hp.length + nw) (hfree : ∀ x, hp.length ≤ x → x < hp.length + nw → h.get x = .free) {g : Heap} {T : Nat → Prop}
    (hT1 : ∀ x blk, g.get x = .live blk → (T x ∧ h'.get x = .live blk ∧ blk.rw = true) ∨ (¬ T x ∧ h.get x = .live blk)) (hT2 : ∀ x, hp.length ≤ x → x < hp.length + nw → T x) (hT3 : ∀ x blk, hp.get x = .live blk → blk.rw = true → T x) (hT4 : ∀ x, T x → x < hp.length + nw) (hT5 : ∀ x, g.get x = .free → ¬ T x ∧ h.get x = .free) :
    ∃ ρ3, ρ.le ρ3 ∧ ρ2.le ρ3 ∧ Inv Γ ρ3 g w' := by
  let ρ3 : Ren := ⟨fun x => if hp.length ≤ x ∧ x < hp.length + nw then ρ2 x else ρ x, ρ.base⟩
  have lt_of : ∀ i blk, hp.get i = .live blk → i < hp.length := fun i blk hi => by
    rcases Nat.lt_or_ge i hp.length with h' | h'
    · exact h'
    · simp [Heap.get, List.getD_eq_getElem?_getD, List.getElem?_eq_none h'] at hi
  have agr : ∀ b, b < hp.length → ρ2 b = ρ b := fun b hb => by
    rw [hJ.agree b hb]; exact Ren.below_lt hb
  have hbase : ρ2.base = ρ.base := hJ.sameBase
  have ρ_new : ∀ x, (hp.length ≤ x ∧ x < hp.length + nw) → ρ3 x = ρ2 x := fun x hx => by simp only [ρ3]; rw [if_pos hx]
  have ρ_old : ∀ x, ¬ (hp.length ≤ x ∧ x < hp.length + nw) → ρ3 x = ρ x := fun x hx => by simp only [ρ3]; rw [if_neg hx]
  have ρ_T : ∀ x, T x → ρ3 x = ρ2 x := fun x hx => by
    by_cases hl : hp.length ≤ x
    · exact ρ_new x ⟨hl, hT4 x hx⟩
    · rw [ρ_old x (by omega), agr x (by omega)]
  have ρ_nT : ∀ x, ¬ T x → ρ3 x = ρ x := fun x hx => ρ_old x fun hx' => hx (hT2 x hx'.1 hx'.2)
  have hle : ρ.le ρ3 := ⟨fun x d hx => by
    rw [ρ_old x fun hx' => by rw [hI.sim.dom x (hfree x hx'.1 hx'.2)] at hx; cases hx]; exact hx, rfl⟩
  have hle2 : ρ2.le ρ3 := ⟨fun x d hx => by
    by_cases h1 : x < hp.length
    · rw [ρ_old x (by omega), ← agr x h1]; exact hx
    · by_cases h2 : x < hp.length + nw
      · rw [ρ_new x ⟨by omega, h2⟩]; exact hx
      · have : ρ2 x = none := hJ.sim.dom x (by
          simp [Heap.get, List.getD_eq_getElem?_getD, List.getElem?_eq_none (show h'.length ≤ x by omega)])
        rw [this] at hx; exact absurd hx (by simp), hbase.symm⟩
  have hsz : w.heap.size ≤ w'.heap.size := hJ.size
  -- what the callee may write belongs to blocks that were touched
  have owned_of : ∀ i, Ctx.owned ⟨hp.length, ρ.below hp.length, hp, w⟩ i → ∃ b blk c, T b ∧ h.get b = .live blk ∧ blk.rw = true ∧ ρ b = some c ∧ blk.solid c ∧ c.1 = i := by
    rintro i ⟨b, blk, c, hb1, hb2, hb3, hb4, hb5, hb6⟩
    have hb1 : b < hp.length := hb1
    have hb4 : ρ.below hp.length b = some c := hb4
    rw [Ren.below_lt hb1] at hb4
    obtain ⟨q, k1, k2, k3⟩ := hsub b blk hb2
    rw [k3 hb3] at k1
    exact ⟨b, blk, c, hT3 b blk hb2 hb3, k1, hb3, hb4, hb5, hb6⟩
  have keep : ∀ y yb d, ¬ T y → h.get y = .live yb → ρ y = some d → yb.solid d → w'.heap[d.1]? = w.heap[d.1]? := fun y yb d hy hyb hd hs => by
    refine hJ.keep d.1 (hI.sim.inside y yb d hyb hd hs) fun ho => ?_
    obtain ⟨b, blk, c, k1, k2, k3, k4, k5, k6⟩ := owned_of _ ho
    exact hI.sim.apart b y blk yb c d k2 hyb (fun e => hy (e ▸ k1)) k4 hd k3 k5 hs k6
  have apartT : ∀ x xb c y yb d, T x → h'.get x = .live xb → xb.rw = true → ρ2 x = some c → xb.solid c → ¬ T y → h.get y = .live yb → ρ y = some d → yb.solid d → c.1 ≠ d.1 := fun x xb c y yb d hx hxb hr hc hs hy hyb hd hs' e => by
    rcases hJ.fresh x xb c hxb hc hr hs with h1 | h1
    · have := hI.sim.inside y yb d hyb hd hs'
      have h1 : w.heap.size ≤ c.1 := h1
      omega
    · obtain ⟨b, blk, c', k1, k2, k3, k4, k5, k6⟩ := owned_of _ h1
      exact hI.sim.apart b y blk yb c' d k2 hyb (fun e => hy (e ▸ k1)) k4 hd k3 k5 hs' (k6.trans e)
  refine ⟨ρ3, hle, hle2, ⟨⟨?_, ?_, ?_, ?_, ?_, ?_, ?_, ?_, ?_⟩, ?_, hI.sameBase, hJ.os.trans hI.os, hJ.tape.trans hI.tape, hJ.output.trans hI.output, Nat.le_trans hI.size hsz, ?_, ?_⟩⟩
  · intro x blk hx
    rcases hT1 x blk hx with ⟨h1, h2, _⟩ | ⟨h1, h2⟩
    · rw [ρ_T x h1]; exact hJ.sim.some_ _ blk h2
    · rw [ρ_nT x h1]; exact hI.sim.some_ x blk h2
  · intro x blk c hx hc
    rcases hT1 x blk hx with ⟨h1, h2, _⟩ | ⟨h1, h2⟩
    · rw [ρ_T x h1] at hc
      exact (hJ.sim.cells x blk c h2 hc).mono hle2
    · rw [ρ_nT x h1] at hc
      exact ((hI.sim.cells x blk c h2 hc).of_cell fun hpos o => cell_of_heap (keep x blk c h1 h2 hc (.inl hpos)) o).mono hle
  · intro x blk c hx hc hs
    rcases hT1 x blk hx with ⟨h1, h2, _⟩ | ⟨h1, h2⟩
    · rw [ρ_T x h1] at hc; exact hJ.sim.inside x blk c h2 hc hs
    · rw [ρ_nT x h1] at hc; have := hI.sim.inside x blk c h2 hc hs; omega
  · intro x blk c hx hc hr hs
    rcases hT1 x blk hx with ⟨h1, h2, _⟩ | ⟨h1, h2⟩
    · rw [ρ_T x h1] at hc; exact hJ.sim.own x blk c h2 hc hr hs
    · rw [ρ_nT x h1] at hc
      obtain ⟨k1, cs, el, k2, k3⟩ := hI.sim.own x blk c h2 hc hr hs
      exact ⟨k1, cs, el, by rw [keep x blk c h1 h2 hc hs]; exact k2, k3⟩
  · intro x y xb yb c d hx hy hne hc hd hr hs hs'
    rcases hT1 x xb hx with ⟨h1, h2, hrx⟩ | ⟨h1, h2⟩
    · rw [ρ_T x h1] at hc
      rcases hT1 y yb hy with ⟨k1, k2, _⟩ | ⟨k1, k2⟩
      · rw [ρ_T y k1] at hd
        exact hJ.sim.apart x y xb yb c d h2 k2 hne hc hd hr hs hs'
      · rw [ρ_nT y k1] at hd
        exact apartT x xb c y yb d h1 h2 hr hc hs k1 k2 hd hs'
    · rw [ρ_nT x h1] at hc
      rcases hT1 y yb hy with ⟨k1, k2, k3⟩ | ⟨k1, k2⟩
      · rw [ρ_T y k1] at hd
        exact (apartT y yb d x xb c k1 k2 k3 hd hs' h1 h2 hc hs).symm
      · rw [ρ_nT y k1] at hd
        exact hI.sim.apart x y xb yb c d h2 k2 hne hc hd hr hs hs'
  · intro x hx
    obtain ⟨h1, h2⟩ := hT5 x hx
    rw [ρ_nT x h1]; exact hI.sim.dom x h2
  · show ρ.base.heap.size ≤ _
    have := hI.sim.baseLe; omega
  · intro i hi
    have := hJ.sim.old i (by rw [hbase]; exact hi)
    rw [this, hbase]
  · intro x blk c hx hc hr hs
    show ρ.base.heap.size ≤ _
    rcases hT1 x blk hx with ⟨h1, h2, _⟩ | ⟨h1, h2⟩
    · rw [ρ_T x h1] at hc
      have := hJ.sim.above x blk c h2 hc hr hs
      rw [hbase] at this; exact this
    · rw [ρ_nT x h1] at hc; exact hI.sim.above x blk c h2 hc hr hs
  · intro b hb
    rw [ρ_old b (by omega)]; exact hI.agree b hb
  · intro i hi hno
    have hi2 : i < w.heap.size := by have := hI.size; omega
    rw [show w'.heap[i]? = w.heap[i]? from hJ.keep i hi2 fun ho => ?_]
    · exact hI.keep i hi hno
    · obtain ⟨b, blk, c, k1, k2, k3, k4, k5, k6⟩ := owned_of _ ho
      rcases hI.fresh b blk c k2 k4 k3 k5 with h1 | h1
      · omega
      · rw [k6] at h1; exact hno h1
  · intro x blk c hx hc hr hs
    rcases hT1 x blk hx with ⟨h1, h2, _⟩ | ⟨h1, h2⟩
    · rw [ρ_T x h1] at hc
      rcases hJ.fresh x blk c h2 hc hr hs with h3 | h3
      · have h3 : w.heap.size ≤ c.1 := h3
        have := hI.size
        exact .inl (by omega)
      · obtain ⟨b, blk', c', k1, k2, k3, k4, k5, k6⟩ := owned_of _ h3
        rw [← k6]
        exact hI.fresh b blk' c' k2 k4 k3 k5
    · rw [ρ_nT x h1] at hc; exact hI.fresh x blk c h2 hc hr hs
def keepR : List ResultVar → List Nat
  | [] => []
  | .tmp t :: l => t :: keepR l
  | .cell t _ :: l => t :: keepR l
theorem does_of_codeK {β : Type} {P : Program} (hm : P.follows .mixedOrders = true) {f : FuncId} {fn : Func} {c : Code} (hf : P.funcs[f]? = some fn) (hb : fn.body = some c) (hname : (fn.name == "runtime.NumGoroutine") = false)
    {env : Env P} {fuel : Nat} {L : Loops P env.Y} (hL : L.fit c) (hy : ∀ Γ, env.Y Γ) {args : List AV} {hp : Heap} {keep : List Nat} {K : Exit → List AV → Heap → Option β} {r : β}
    (hr : codeK P env hp.length fuel L [] (.code c) (args ++ List.replicate (fn.ntmps - args.length) (.val undef)) hp (fun e t h => gcK hp.length keep t h fun t2 h2 => K e t2 h2) = some r) :
    ∃ e t' h', K e t' h' = some r ∧ hp.length ≤ h'.length ∧ ∀ vs, okExit e = true → resA P t' h' fn.results.toList = some vs → Does P f args hp (resV vs) h' := by
  obtain ⟨e, t0, h0, hk0, hn0, hg0⟩ := codeK_ok hm fuel L [] (.code c) _ _ _ c hL (.inr rfl) (Nat.le_refl _) hr
  obtain ⟨t1, h1, hk, hn1, σ, l, hw, hob⟩ := gcK_ok hk0
  have hg := Runs.weak hg0 hw hob hn1
  refine ⟨e, t1, h1, hk, hn1, fun vs hex hvs => ?_⟩
  intro ρ w cargs hsim hargs
  unfold Invokes
  have hcall : (callFunc f cargs).run P w = .ok (.enter f cargs) w := by
    simp only [callFunc, program, Sem.run_bind, Sem.run, Result.andThen, hf]
    simp only [hname, hb, Option.isNone_some, Bool.false_eq_true, if_false]
    rfl
  rw [hcall]
  simp only
  have hlen := hargs.length
  let Γ : Ctx := ⟨hp.length, ρ, hp, w⟩
  have hI : Inv Γ ρ hp w := by
    refine ⟨hsim, fun _ _ => rfl, rfl, rfl, rfl, rfl, Nat.le_refl _, fun _ _ _ => rfl, fun b blk d hb hd hrw hs => ?_⟩
    refine .inr ⟨b, blk, d, ?_, hb, hrw, hd, hs, rfl⟩
    rcases Nat.lt_or_ge b hp.length with h' | h'
    · exact h'
    · simp [Heap.get, List.getD_eq_getElem?_getD, List.getElem?_eq_none h'] at hb
  have hV : VRs ρ (args ++ List.replicate (fn.ntmps - args.length) (.val undef)) ({ tmps := cargs ++ Array.replicate (fn.ntmps - cargs.size) undef, defers := [] } : Act).tmps.toList := by
    simp only [Array.toList_append, Array.toList_replicate]
    refine hargs.append ?_
    rw [hlen]
    simpa using VRs.replicate (ρ := ρ) (a := .val undef) (v := undef) (by simp [VR]) (fn.ntmps - cargs.size)
  refine calls_of_runs hf hb hg hex rfl (hy _) hI hV fun ρ2 w2 a2 g2 g3 => ?_
  obtain ⟨us, cv, k1, k2, k3⟩ := run_results_list (P := P) g2 g3 hvs
  exact ⟨cv, k1, ρ2, cv, rfl, k3 ρ2 vs k2, g2⟩
def reachF (H : Nat → Ent) : Nat → Nat → List Nat → List Nat
  | 0, _, σ => σ
  | f + 1, i, σ => match σ[i]? with
    | none => σ
    | some b => reachF H f (i + 1) (match H b with
      | .live blk => (match blk.cells with
        | .lit l => blksL l σ
        | _ => σ)
      | _ => σ)
def rwOnly : Ent → Ent
  | .live b => if b.rw = true then .live b else .dead
  | _ => .dead
theorem rwOnly_live {e : Ent} {blk : Blk} (h : rwOnly e = .live blk) : e = .live blk ∧ blk.rw = true := by
  unfold rwOnly at h
  split at h
  · split at h
    · rename_i b hb; injection h with h; subst h; exact ⟨rfl, hb⟩
    · cases h
  · cases h
theorem rwOnly_free {e : Ent} : rwOnly e ≠ .free := by
  unfold rwOnly
  split
  · split <;> simp
  · simp
def isRw : Ent → Bool
  | .live b => b.rw
  | _ => false
def lend (wr : List AV → Bool) : Ent → Ent
  | .live b => .live { b with rw := b.rw && (match b.cells with
    | .lit l => wr l
    | _ => true) }
  | e => e
def partHeap (wr : List AV → Bool) (H : Nat → Ent) (new : Nat) (R : List Nat) : Heap := (List.range new).map fun b => if R.contains b then lend wr (H b) else .dead
theorem lend_live {wr : List AV → Bool} {e : Ent} {blk : Blk} (h : lend wr e = .live blk) : ∃ blk' : Blk, e = .live blk' ∧ blk'.cells = blk.cells ∧ (blk.rw = true → blk' = blk) := by
  cases e with
  | live b =>
    simp only [lend] at h
    injection h with h; subst h
    refine ⟨b, rfl, rfl, fun hr => ?_⟩
    have hr : (b.rw && (match b.cells with
      | .lit l => wr l
      | _ => true)) = true := hr
    rw [hr]
    simp only [Bool.and_eq_true] at hr
    have := hr.1
    cases b; simp at this; rw [this]
  | free => simp [lend] at h
  | dead => simp [lend] at h
theorem lend_free {wr : List AV → Bool} {e : Ent} (h : lend wr e = .free) : e = .free := by
  cases e with
  | live b => simp [lend] at h
  | free => rfl
  | dead => simp [lend] at h
def wbOld (hp h' : Heap) : List Nat → List (Nat × Ent)
  | [] => []
  | b :: l => if isRw (hp.get b) then (b, rwOnly (h'.get b)) :: wbOld hp h' l else wbOld hp h' l
def newsE (h' : Heap) (Z : List Nat) : Nat → Nat → List (Nat × Ent)
  | _, 0 => []
  | k, n + 1 => (k, if Z.contains k then rwOnly (h'.get k) else .dead) :: newsE h' Z (k + 1) n
theorem mem_wbOld {hp h' : Heap} {x : Nat} {e : Ent} : ∀ {l : List Nat}, (x, e) ∈ wbOld hp h' l → x ∈ l ∧ isRw (hp.get x) = true ∧ e = rwOnly (h'.get x)
  | [], h => by simp [wbOld] at h
  | b :: l, h => by
    simp only [wbOld] at h
    split at h
    · rename_i hb
      rcases List.mem_cons.1 h with h | h
      · injection h with h1 h2; subst h1; exact ⟨List.mem_cons_self .., hb, h2⟩
      · obtain ⟨h1, h2⟩ := mem_wbOld h; exact ⟨List.mem_cons_of_mem _ h1, h2⟩
    · obtain ⟨h1, h2⟩ := mem_wbOld h; exact ⟨List.mem_cons_of_mem _ h1, h2⟩
theorem wbOld_mem {hp h' : Heap} {x : Nat} (hx : isRw (hp.get x) = true) : ∀ {l : List Nat}, x ∈ l → (x, rwOnly (h'.get x)) ∈ wbOld hp h' l
  | [], h => by simp at h
  | b :: l, h => by
    simp only [wbOld]
    rcases List.mem_cons.1 h with rfl | h
    · rw [if_pos hx]; exact List.mem_cons_self ..
    · have := wbOld_mem (hp := hp) (h' := h') hx h
      split
      · exact List.mem_cons_of_mem _ this
      · exact this
theorem mem_newsE {h' : Heap} {Z : List Nat} {x : Nat} {e : Ent} : ∀ {k n : Nat}, (x, e) ∈ newsE h' Z k n → k ≤ x ∧ x < k + n ∧ (e = rwOnly (h'.get x) ∨ e = .dead)
  | k, 0, h => by simp [newsE] at h
  | k, n + 1, h => by
    simp only [newsE] at h
    rcases List.mem_cons.1 h with h | h
    · injection h with h1 h2; subst h1
      refine ⟨Nat.le_refl _, by omega, ?_⟩
      rw [h2]; split
      · exact .inl rfl
      · exact .inr rfl
    · obtain ⟨h1, h2, h3⟩ := mem_newsE h
      exact ⟨by omega, by omega, h3⟩
theorem newsE_mem {h' : Heap} {Z : List Nat} {x : Nat} : ∀ {k n : Nat}, k ≤ x → x < k + n → ∃ e, (x, e) ∈ newsE h' Z k n
  | k, 0, h1, h2 => by omega
  | k, n + 1, h1, h2 => by
    simp only [newsE]
    by_cases hx : x = k
    · subst hx; exact ⟨_, List.mem_cons_self ..⟩
    · obtain ⟨e, he⟩ := newsE_mem (h' := h') (Z := Z) (k := k + 1) (n := n) (x := x) (by omega) (by omega)
      exact ⟨e, List.mem_cons_of_mem _ he⟩
def outE (hp h' : Heap) (R Z : List Nat) (v : AV) : Eff := { rb := R, wb := wbOld hp h' R ++ newsE h' Z hp.length (h'.length - hp.length), nw := h'.length - hp.length, val := v }
theorem partHeap_get {wr : List AV → Bool} {H : Nat → Ent} {new : Nat} {R : List Nat} {b : Nat} : (partHeap wr H new R).get b = if b < new then (if R.contains b then lend wr (H b) else .dead) else .free := by
  unfold partHeap Heap.get
  rw [List.getD_eq_getElem?_getD, List.getElem?_map]
  by_cases hb : b < new
  · rw [if_pos hb, List.getElem?_range hb]; rfl
  · rw [if_neg hb, List.getElem?_eq_none (by simpa using hb)]; rfl
theorem out_of_inv {wr : List AV → Bool} {H : Nat → Ent} {new : Nat} {R Z : List Nat} {v : AV} {h' : Heap} (hents : okEnts new (partHeap wr H new R) = true) (hn' : new ≤ h'.length)
    {Γ : Ctx} {ρ : Ren} {h : Heap} {w : World} (hI : Inv Γ ρ h w) (hH : ∀ b ∈ R, h.get b = H b) (hn : Γ.n0 ≤ new) (hfree : ∀ x, new ≤ x → x < new + (h'.length - new) → h.get x = .free) :
    Sim (ρ.below new) (partHeap wr H new R) w ∧ ∀ (ρ2 : Ren) (w' : World), Inv ⟨new, ρ.below new, partHeap wr H new R, w⟩ ρ2 h' w' → ∃ ρ3, ρ.le ρ3 ∧ ρ2.le ρ3 ∧ Inv Γ ρ3 (h.upds (outE (partHeap wr H new R) h' R Z v).wb) w' := by
  generalize hpe : partHeap wr H new R = hp at *
  have hlen : hp.length = new := by rw [← hpe]; simp [partHeap]
  have hget : ∀ b, hp.get b = if b < new then (if R.contains b then lend wr (H b) else .dead) else .free := fun b => by rw [← hpe]; exact partHeap_get
  subst hlen
  have hsub : ∀ b blk, hp.get b = .live blk → (∃ blk' : Blk, h.get b = .live blk' ∧ blk'.cells = blk.cells ∧ (blk.rw = true → blk' = blk)) ∧ b ∈ R := fun b blk hb => by
    rw [hget] at hb
    split at hb
    · split at hb
      · rename_i hc
        have hc : b ∈ R := by simpa using hc
        rw [hH b hc]; exact ⟨lend_live hb, hc⟩
      · cases hb
    · cases hb
  have hfr : ∀ b, b < hp.length → hp.get b = .free → h.get b = .free := fun b hb hb' => by
    rw [hget, if_pos hb] at hb'
    split at hb'
    · rename_i hc
      rw [hH b (by have : b ∈ R := by simpa using hc
                   exact this)]; exact lend_free hb'
    · cases hb'
  have hsim := hI.sim.below (hp := hp) (fun b blk hb => (hsub b blk hb).1) hfr hents
  refine ⟨hsim, fun ρ2 w' hJ => ?_⟩
  let T : Nat → Prop := fun x => isRw (hp.get x) = true ∨ (hp.length ≤ x ∧ x < h'.length)
  have hfree : ∀ x, hp.length ≤ x → x < hp.length + (h'.length - hp.length) → h.get x = .free := hfree
  have rw_lt : ∀ x, isRw (hp.get x) = true → x < hp.length ∧ x ∈ R := fun x hx => by
    cases hq : hp.get x with
    | live blk =>
      refine ⟨?_, (hsub x blk hq).2⟩
      rcases Nat.lt_or_ge x hp.length with h9 | h9
      · exact h9
      · rw [hget, if_neg (by omega)] at hq; cases hq
    | free => rw [hq] at hx; cases hx
    | dead => rw [hq] at hx; cases hx
  have cases_ := fun x => get_upds (wbOld hp h' R ++ newsE h' Z hp.length (h'.length - hp.length)) h x
  have inT : ∀ x e, (x, e) ∈ wbOld hp h' R ++ newsE h' Z hp.length (h'.length - hp.length) → T x ∧ (e = rwOnly (h'.get x) ∨ e = .dead) := fun x e hm => by
    rcases List.mem_append.1 hm with hm | hm
    · obtain ⟨h1, h2, h3⟩ := mem_wbOld hm; exact ⟨.inl h2, .inl h3⟩
    · obtain ⟨h1, h2, h3⟩ := mem_newsE hm; exact ⟨.inr ⟨h1, by omega⟩, h3⟩
  have notT : ∀ x, (∀ e, (x, e) ∉ wbOld hp h' R ++ newsE h' Z hp.length (h'.length - hp.length)) → ¬ T x := fun x hno hT => by
    rcases hT with hT | ⟨h1, h2⟩
    · exact hno _ (List.mem_append.2 (.inl (wbOld_mem hT (rw_lt x hT).2)))
    · obtain ⟨e, he⟩ := newsE_mem (h' := h') (Z := Z) (k := hp.length) (n := h'.length - hp.length) (x := x) h1 (by omega)
      exact hno e (List.mem_append.2 (.inr he))
  obtain ⟨ρ3, k1, k2, k3⟩ := after_call hI (hp := hp) (fun b blk hb => (hsub b blk hb).1) hJ hn (nw := h'.length - hp.length) (by omega) hfree
    (g := h.upds (wbOld hp h' R ++ newsE h' Z hp.length (h'.length - hp.length))) (T := T)
    (fun x blk hx => by
      rcases cases_ x with ⟨e, h1, h2⟩ | ⟨h1, h2⟩
      · obtain ⟨h3, h4⟩ := inT x e h1
        rw [h2] at hx
        rcases h4 with h4 | h4
        · rw [h4] at hx; exact .inl ⟨h3, rwOnly_live hx⟩
        · rw [h4] at hx; cases hx
      · rw [h2] at hx; exact .inr ⟨notT x h1, hx⟩)
    (fun x h1 h2 => .inr ⟨h1, by omega⟩)
    (fun x blk h1 h2 => .inl (by rw [h1]; exact h2))
    (fun x hT => by
      rcases hT with hT | hT
      · have := (rw_lt x hT).1; omega
      · omega)
    (fun x hx => by
      rcases cases_ x with ⟨e, h1, h2⟩ | ⟨h1, h2⟩
      · obtain ⟨h3, h4⟩ := inT x e h1
        rw [h2] at hx
        rcases h4 with h4 | h4
        · rw [h4] at hx; exact absurd hx rwOnly_free
        · rw [h4] at hx; cases hx
      · rw [h2] at hx; exact ⟨notT x h1, hx⟩)
  exact ⟨ρ3, k1, k2, k3⟩
theorem callOK_of_does {P : Program} {wr : List AV → Bool} {f : FuncId} {args : List AV} {H : Nat → Ent} {new : Nat} {R Z : List Nat} {v : AV} {h' : Heap} (hargs : okL new args = true) (hents : okEnts new (partHeap wr H new R) = true) (hn' : new ≤ h'.length) (hd : Does P f args (partHeap wr H new R) v h') :
    CallOK P f args H new (outE (partHeap wr H new R) h' R Z v) := by
  intro Γ ρ h w cargs hI hV hH hn hfree
  have hlen : (partHeap wr H new R).length = new := by simp [partHeap]
  have hfree : ∀ x, new ≤ x → x < new + (h'.length - (partHeap wr H new R).length) → h.get x = .free := hfree
  rw [hlen] at hfree
  obtain ⟨hsim, hout⟩ := out_of_inv (Z := Z) (v := v) hents hn' hI hH hn hfree
  refine (hd _ w cargs hsim (VRs.below _ _ hargs hV)).mono fun e w' ⟨ρ2, cv, he, hvv, hJ⟩ => ?_
  rw [hlen] at hJ
  obtain ⟨ρ3, k1, k2, k3⟩ := hout ρ2 w' hJ
  exact ⟨ρ3, cv, he, k1, VR.mono k2 _ _ hvv, k3⟩
def inlS {β : Type} (wr : List AV → Bool) (P : Program) (env : Env P) (fuel : Nat) (L : Loops P env.Y) (fn : Func) (c : Code) (H : Nat → Ent) (new : Nat) (args : List AV) (K : Eff → Option β) : Option β :=
  forceL (reachF H 1000 0 (blksL args [])) fun R =>
  forceEs (partHeap wr H new R) fun hp =>
  match okL new args && okEnts new hp with
  | true => codeK P env new fuel L [] (.code c) (args ++ List.replicate (fn.ntmps - args.length) (.val undef)) hp fun e t h' => gcK new (keepR fn.results.toList) t h' fun t h' => match okExit e with
    | true => (match resA P t h' fn.results.toList with
      | some vs => K (outE hp h' R (reachF h'.get 1000 0 (blksL vs R)) (resV vs))
      | none => none)
    | false => none
  | false => none
def inlSumm {P : Program} (wr : List AV → Bool) (hm : P.follows .mixedOrders = true) (f : FuncId) (fn : Func) (c : Code) (hf : P.funcs[f]? = some fn) (hb : fn.body = some c) (hname : (fn.name == "runtime.NumGoroutine") = false) (env : Env P) (fuel : Nat) (L : Loops P env.Y) (hL : L.fit c) (hy : ∀ Γ, env.Y Γ := by exact fun _ => True.intro) : Summ P where
  f := f
  S := fun H new args K => inlS wr P env fuel L fn c H new args K
  ok := by
    intro β H new args K r hs
    unfold inlS at hs
    simp only [forceL_eq, forceEs_eq] at hs
    split at hs
    case h_2 => cases hs
    rename_i hok
    simp only [Bool.and_eq_true] at hok
    have hlen : (partHeap wr H new (reachF H 1000 0 (blksL args []))).length = new := by simp [partHeap]
    obtain ⟨e, t', h', hk, hn', hd⟩ := does_of_codeK hm hf hb hname hL hy (hp := partHeap wr H new (reachF H 1000 0 (blksL args []))) (by rw [hlen]; exact hs)
    split at hk
    case h_2 => cases hk
    rename_i hex
    split at hk
    case h_2 => cases hk
    rename_i vs hvs
    exact ⟨_, hk, callOK_of_does hok.1 hok.2 (by rw [hlen] at hn'; exact hn') (hd vs hex hvs)⟩
def onlyM : List AV → Bool
  | [.val (.bool _)] => true
  | _ => false
def allRw : List AV → Bool := fun _ => true
end Go.Ab
namespace Go.Ab
def mEnt (s : Sh) (m : s.T) : Ent := .live { cells := .lit ((s.enc m).map .val), rw := true }
def Acts (P : Program) (f : FuncId) (s : Sh) (ss rs : List Sh) (law : s.T → Sh.Ts ss → Option (s.T × Sh.Ts rs)) : Prop :=
  ∀ m x m' y, law m x = some (m', y) → Does P f (.ptr (Sh.nes ss) 0 :: Sh.args ss x 0) (Sh.entss ss x ++ [mEnt s m]) (outV rs y 0) (Sh.entss ss x ++ [mEnt s m'])
def outM {P : Program} (fn : Func) (s : Sh) (n : Nat) (rs : List Sh) (e : Exit) (t : List AV) (h : Heap) : Option (s.T × Sh.Ts rs) :=
  match okExit e with
  | true => (match resA P t h fn.results.toList with
    | some vs => (match viewArgs h.get rs vs with
      | some (y, _, c) => (match h.get n with
        | .live { cells := .lit cs, rw := true, grow := none } => (match s.dec cs with
          | some (m', []) => ifK c (some (m', y))
          | _ => none)
        | _ => none)
      | none => none)
    | none => none)
  | false => none
def codeLawM (P : Program) (env : Env P) (fuel : Nat) (L : Loops P env.Y) (fn : Func) (c : Code) (s : Sh) (ss rs : List Sh) (m : s.T) (x : Sh.Ts ss) : Option (s.T × Sh.Ts rs) :=
  codeK P env (Sh.nes ss + 1) fuel L [] (.code c) (.ptr (Sh.nes ss) 0 :: Sh.args ss x 0 ++ List.replicate (fn.ntmps - (ss.length + 1)) (.val undef)) (Sh.entss ss x ++ [mEnt s m]) fun e t h => outM (P := P) fn s (Sh.nes ss) rs e t h
theorem get_snoc (l : List Ent) (e : Ent) (b : Nat) : Heap.get (l ++ [e]) b = if b < l.length then Heap.get l b else if b = l.length then e else .free := by
  simp only [Heap.get, List.getD_eq_getElem?_getD]
  by_cases h1 : b < l.length
  · rw [if_pos h1, List.getElem?_append_left h1]
  · rw [if_neg h1, List.getElem?_append_right (by omega)]
    by_cases h2 : b = l.length
    · rw [if_pos h2]; subst h2; simp
    · rw [if_neg h2, List.getElem?_eq_none (by simp; omega)]; rfl
theorem vals_free {ρ ρ' : Ren} {w : World} {cb co : Nat} {l : List Value} (h : CellsAt ρ w cb co (.lit (l.map .val))) : CellsAt ρ' w cb co (.lit (l.map .val)) := by
  intro i v hi
  obtain ⟨cv, h1, h2⟩ := h i v hi
  refine ⟨cv, h1, ?_⟩
  simp only [List.getElem?_map, Option.map_eq_some_iff] at hi
  obtain ⟨u, _, rfl⟩ := hi
  simpa [VR] using h2
theorem settleM {ρ ρ2 : Ren} {es : List Ent} {s : Sh} {m m' : s.T} (hf : s.flat = true) {h1 : Heap} {w w2 : World} (hS : Sim ρ (es ++ [mEnt s m]) w) (hro : ∀ b blk, Heap.get es b = .live blk → blk.rw = false) (hI : Inv ⟨es.length + 1, ρ, es ++ [mEnt s m], w⟩ ρ2 h1 w2)
    (hm : h1.get es.length = mEnt s m') : Inv ⟨es.length + 1, ρ, es ++ [mEnt s m], w⟩ ρ (es ++ [mEnt s m']) w2 := by
  have getN : Heap.get (es ++ [mEnt s m]) es.length = mEnt s m := by rw [get_snoc]; simp
  have agr : ρ2 es.length = ρ es.length := hI.agree es.length (Nat.lt_succ_self _)
  have hbase : ρ2.base = ρ.base := hI.sameBase
  have hsz : w.heap.size ≤ w2.heap.size := hI.size
  have len : ((s.enc m).map AV.val).length = ((s.enc m').map AV.val).length := by simp [enc_length s m hf, enc_length s m' hf]
  have sol : ∀ c, Blk.solid { cells := .lit ((s.enc m').map .val), rw := true } c → Blk.solid { cells := .lit ((s.enc m).map .val), rw := true } c := fun c hs => by
    unfold Blk.solid at *
    simp only [Cells.len] at *
    rw [len]; exact hs
  have ent : ∀ b blk, Heap.get (es ++ [mEnt s m']) b = .live blk → (b < es.length ∧ Heap.get es b = .live blk ∧ Heap.get (es ++ [mEnt s m]) b = .live blk ∧ blk.rw = false) ∨ (b = es.length ∧ blk = { cells := .lit ((s.enc m').map .val), rw := true }) := fun b blk hb => by
    rw [get_snoc] at hb
    split at hb
    · rename_i hl
      exact .inl ⟨hl, hb, by rw [get_snoc, if_pos hl]; exact hb, hro b blk hb⟩
    · split at hb
      · rename_i h2
        unfold mEnt at hb
        injection hb with hb
        exact .inr ⟨h2, hb.symm⟩
      · cases hb
  have owned_of : ∀ i, Ctx.owned ⟨es.length + 1, ρ, es ++ [mEnt s m], w⟩ i → ∃ c, ρ es.length = some c ∧ Blk.solid { cells := .lit ((s.enc m).map .val), rw := true } c ∧ c.1 = i := by
    rintro i ⟨b, blk, c, hb1, hb2, hb3, hb4, hb5, hb6⟩
    have hb2 : Heap.get (es ++ [mEnt s m]) b = .live blk := hb2
    rw [get_snoc] at hb2
    split at hb2
    · rw [hro b blk hb2] at hb3; cases hb3
    · split at hb2
      · rename_i h2
        unfold mEnt at hb2
        injection hb2 with hb2
        subst hb2
        have hb4 : ρ b = some c := hb4
        rw [h2] at hb4
        exact ⟨c, hb4, hb5, hb6⟩
      · cases hb2
  have keepRo : ∀ b blk c, Heap.get (es ++ [mEnt s m]) b = .live blk → b < es.length → ρ b = some c → blk.solid c → w2.heap[c.1]? = w.heap[c.1]? := fun b blk c hb hlt hc hs => by
    refine hI.keep c.1 (hS.inside b blk c hb hc hs) fun ho => ?_
    obtain ⟨c', k1, k2, k3⟩ := owned_of _ ho
    exact hS.apart es.length b _ blk c' c (by rw [getN]; rfl) hb (by omega) k1 hc rfl k2 hs k3
  have simN : ∀ c, ρ es.length = some c → CellsAt ρ w2 c.1 c.2.1 (.lit ((s.enc m').map .val)) := fun c hc => by
    have := hI.sim.cells es.length _ c (by rw [hm]; rfl) (by rw [agr]; exact hc)
    exact vals_free this
  refine ⟨⟨fun b blk hb => ?_, fun b blk c hb hc => ?_, fun b blk c hb hc hs => ?_, fun b blk c hb hc hr hs => ?_, fun b b' blk blk' c c' hb hb' hne hc hc' hr hs hs' => ?_, fun b hb => ?_, ?_, fun i hi => ?_, fun b blk c hb hc hr hs => ?_⟩, fun _ _ => rfl, rfl, hI.os, hI.tape, hI.output, hI.size, hI.keep, fun b blk c hb hc hr hs => ?_⟩
  · rcases ent b blk hb with ⟨h2, h3, h4, h5⟩ | ⟨h2, h3⟩
    · exact hS.some_ b blk h4
    · subst h2; exact hS.some_ _ _ (by rw [getN]; rfl)
  · rcases ent b blk hb with ⟨h2, h3, h4, h5⟩ | ⟨h2, h3⟩
    · exact (hS.cells b blk c h4 hc).of_cell fun hpos o => cell_of_heap (keepRo b blk c h4 h2 hc (.inl hpos)) o
    · subst h2; subst h3; exact simN c hc
  · rcases ent b blk hb with ⟨h2, h3, h4, h5⟩ | ⟨h2, h3⟩
    · have := hS.inside b blk c h4 hc hs; omega
    · subst h2; subst h3
      exact hI.sim.inside es.length _ c (by rw [hm]; rfl) (by rw [agr]; exact hc) hs
  · rcases ent b blk hb with ⟨h2, h3, h4, h5⟩ | ⟨h2, h3⟩
    · rw [h5] at hr; cases hr
    · subst h2; subst h3
      exact hI.sim.own es.length _ c (by rw [hm]; rfl) (by rw [agr]; exact hc) rfl hs
  · rcases ent b blk hb with ⟨h2, h3, h4, h5⟩ | ⟨h2, h3⟩
    · rw [h5] at hr; cases hr
    · subst h2; subst h3
      rcases ent b' blk' hb' with ⟨k2, k3, k4, k5⟩ | ⟨k2, k3⟩
      · exact hS.apart es.length b' _ blk' c c' (by rw [getN]; rfl) k4 hne hc hc' rfl (sol c hs) hs'
      · exact absurd k2.symm hne
  · refine hS.dom b ?_
    rw [get_snoc] at hb ⊢
    split at hb
    · rename_i hl; rw [if_pos hl]; exact hb
    · rename_i hl
      rw [if_neg hl]
      split at hb
      · cases hb
      · rename_i h2; rw [if_neg h2]
  · have := hS.baseLe; omega
  · have := hI.sim.old i (by rw [hbase]; exact hi)
    rw [this, hbase]
  · rcases ent b blk hb with ⟨h2, h3, h4, h5⟩ | ⟨h2, h3⟩
    · rw [h5] at hr; cases hr
    · subst h2; subst h3
      exact hS.above es.length _ c (by rw [getN]; rfl) hc rfl (sol c hs)
  · rcases ent b blk hb with ⟨h2, h3, h4, h5⟩ | ⟨h2, h3⟩
    · rw [h5] at hr; cases hr
    · subst h2; subst h3
      exact .inr ⟨es.length, _, c, Nat.lt_succ_self _, getN, rfl, hc, sol c hs, rfl⟩
theorem Acts.of_code {P : Program} (hm : P.follows .mixedOrders = true) {f : FuncId} {fn : Func} {c : Code} (hf : P.funcs[f]? = some fn) (hb : fn.body = some c) (hname : (fn.name == "runtime.NumGoroutine") = false)
    (env : Env P) (fuel : Nat) {L : Loops P env.Y} (hL : L.fit c) {s : Sh} (hs : s.flat = true) {ss rs : List Sh} (hrs : Sh.nes rs = 0) (hy : ∀ Γ, env.Y Γ := by exact fun _ => True.intro) : Acts P f s ss rs (codeLawM P env fuel L fn c s ss rs) := by
  intro m x m' y hxy ρ w cargs hsim hargs
  unfold codeLawM at hxy
  have hlen0 := entss_length ss x
  obtain ⟨e, t1, h1, hk, hn1, hg⟩ := codeK_ok hm fuel L [] (.code c) _ _ _ c hL (.inr rfl) (by simp [hlen0]) hxy
  unfold outM at hk
  split at hk
  case h_2 => cases hk
  rename_i hex
  split at hk
  case h_2 => cases hk
  rename_i vs hvs
  split at hk
  case h_2 => cases hk
  rename_i y' bs cc hview
  split at hk
  case h_2 => cases hk
  rename_i cs hget
  split at hk
  case h_2 => cases hk
  rename_i m2 hdec
  obtain ⟨hcc, hk⟩ := ifK_some hk
  injection hk with hk; injection hk with hk1 hk2; subst hk1; subst hk2
  unfold Invokes
  have hcall : (callFunc f cargs).run P w = .ok (.enter f cargs) w := by
    simp only [callFunc, program, Sem.run_bind, Sem.run, Result.andThen, hf]
    simp only [hname, hb, Option.isNone_some, Bool.false_eq_true, if_false]
    rfl
  rw [hcall]
  simp only
  have hlen := hargs.length
  simp only [List.length_cons, args_length] at hlen
  have hro : ∀ b blk, Heap.get (Sh.entss ss x) b = .live blk → blk.rw = false := fun b blk hb => entss_norw hb
  have hI : Inv ⟨(Sh.entss ss x).length + 1, ρ, Sh.entss ss x ++ [mEnt s m], w⟩ ρ (Sh.entss ss x ++ [mEnt s m]) w := by
    refine ⟨hsim, fun _ _ => rfl, rfl, rfl, rfl, rfl, Nat.le_refl _, fun _ _ _ => rfl, fun b blk d hb hd hrw hs => ?_⟩
    refine .inr ⟨b, blk, d, ?_, hb, hrw, hd, hs, rfl⟩
    rw [get_snoc] at hb
    show b < _ + 1
    split at hb
    · omega
    · split at hb
      · omega
      · cases hb
  have hV : VRs ρ (.ptr (Sh.nes ss) 0 :: Sh.args ss x 0 ++ List.replicate (fn.ntmps - (ss.length + 1)) (.val undef)) ({ tmps := cargs ++ Array.replicate (fn.ntmps - cargs.size) undef, defers := [] } : Act).tmps.toList := by
    simp only [Array.toList_append, Array.toList_replicate]
    refine hargs.append ?_
    rw [hlen]
    simpa using VRs.replicate (ρ := ρ) (a := .val undef) (v := undef) (by simp [VR]) (fn.ntmps - cargs.size)
  have hΓ : (Sh.entss ss x).length + 1 = Sh.nes ss + 1 := by omega
  refine calls_of_runs hf hb hg hex hΓ (hy _) hI hV fun ρ2 w2 a2 g2 g3 => ?_
  obtain ⟨us, cv, k1, k2, k3⟩ := run_results_list (P := P) g2 g3 hvs
  have hva := viewArgs_ok (Q := fun _ => True) g2.sim rs vs us k2 y' bs cc hview (fun b _ => rfl) (fun _ _ => trivial) hcc
  have hout : VR ρ (outV rs y' 0) cv := by
    obtain ⟨c0, hc0, hvv⟩ := hva
    have : c0 = [] := List.length_eq_zero_iff.1 (by rw [hc0, hrs])
    subst this
    refine k3 ρ _ ?_
    have := (hvv ⟨ρ.f, ρ2.base⟩ 0 rfl (fun i d hi => by simp at hi)).1
    exact args_shift rs y' 0 _ (fun k hk => by omega) us this
  obtain ⟨hfl, hcs⟩ := dec_ok s cs m2 [] hdec
  rw [List.append_nil] at hcs
  have hset := settleM hs hsim hro g2 (m' := m2) (by rw [hlen0, hget, hcs]; rfl)
  have hfin : ∃ ρ' cv', cv = cv' ∧ VR ρ' (outV rs y' 0) cv' ∧ Inv ⟨(Sh.entss ss x ++ [mEnt s m]).length, ρ, Sh.entss ss x ++ [mEnt s m], w⟩ ρ' (Sh.entss ss x ++ [mEnt s m2]) w2 :=
    ⟨ρ, cv, rfl, hout, by rw [List.length_append]; exact hset⟩
  obtain ⟨ρ', cv', h7, h8, h9⟩ := hfin
  subst h7
  exact ⟨cv, k1, ρ', cv, rfl, h8, h9⟩
theorem Acts.to {P : Program} {f : FuncId} {s : Sh} {ss rs : List Sh} {law law' : s.T → Sh.Ts ss → Option (s.T × Sh.Ts rs)} (h : Acts P f s ss rs law) (he : ∀ m x, law m x = law' m x) : Acts P f s ss rs law' := fun m x m' y hxy => h m x m' y (by rw [he]; exact hxy)
def actsS {P : Program} {β : Type} (s : Sh) (ss rs : List Sh) (law : s.T → Sh.Ts ss → Option (s.T × Sh.Ts rs)) (H : Nat → Ent) (new : Nat) (args : List AV) (K : Eff → Option β) : Option β :=
  match args with
  | .ptr b 0 :: rest => (match H b with
    | .live { cells := .lit cs, rw := true, grow := none } => (match s.dec cs with
      | some (m, []) => (match viewArgs H ss rest with
        | some (x, bs, c) => (match bs.contains b with
          | true => none
          | false => ifK c ((law m x).bind fun r => K { rb := b :: bs, wb := [(b, mEnt s r.1)], val := outV rs r.2 0 }))
        | none => none)
      | _ => none)
    | _ => none)
  | _ => none
theorem after_mut {Γ : Ctx} {ρ : Ren} {h : Heap} {w : World} (hI : Inv Γ ρ h w) {s : Sh} (hf : s.flat = true) {b : Nat} {m m' : s.T} (hb : h.get b = mEnt s m) {es : List Ent} (hro : ∀ i blk, Heap.get es i = .live blk → blk.rw = false) {ρg ρg' : Ren} (hρ : ρg es.length = ρ b) (hgb : ρg.base = ρ.base) {w' : World}
    (hJ : Inv ⟨(es ++ [mEnt s m]).length, ρg, es ++ [mEnt s m], w⟩ ρg' (es ++ [mEnt s m']) w') : Inv Γ ρ (h.upd b (mEnt s m')) w' := by
  have getN : ∀ m, Heap.get (es ++ [mEnt s m]) es.length = mEnt s m := fun m => by rw [get_snoc]; simp
  have agr : ρg' es.length = ρ b := by rw [← hρ]; exact hJ.agree es.length (by simp)
  have hsz : w.heap.size ≤ w'.heap.size := hJ.size
  have len : ((s.enc m).map AV.val).length = ((s.enc m').map AV.val).length := by simp [enc_length s m hf, enc_length s m' hf]
  have sol : ∀ c, Blk.solid { cells := .lit ((s.enc m').map .val), rw := true } c → Blk.solid { cells := .lit ((s.enc m).map .val), rw := true } c := fun c hs => by
    unfold Blk.solid at *
    simp only [Cells.len] at *
    rw [len]; exact hs
  have ent : ∀ x blk, (h.upd b (mEnt s m')).get x = .live blk → (x ≠ b ∧ h.get x = .live blk) ∨ (x = b ∧ blk = { cells := .lit ((s.enc m').map .val), rw := true }) := fun x blk hx => by
    rw [Heap.get_upd] at hx
    by_cases hxb : x = b
    · rw [if_pos hxb] at hx
      unfold mEnt at hx
      injection hx with hx
      exact .inr ⟨hxb, hx.symm⟩
    · rw [if_neg hxb] at hx; exact .inl ⟨hxb, hx⟩
  have owned_of : ∀ i, Ctx.owned ⟨(es ++ [mEnt s m]).length, ρg, es ++ [mEnt s m], w⟩ i → ∃ c, ρ b = some c ∧ Blk.solid { cells := .lit ((s.enc m).map .val), rw := true } c ∧ c.1 = i := by
    rintro i ⟨k, blk, c, hb1, hb2, hb3, hb4, hb5, hb6⟩
    have hb2 : Heap.get (es ++ [mEnt s m]) k = .live blk := hb2
    rw [get_snoc] at hb2
    split at hb2
    · rw [hro k blk hb2] at hb3; cases hb3
    · split at hb2
      · rename_i h2
        unfold mEnt at hb2
        injection hb2 with hb2
        subst hb2
        have hb4 : ρg k = some c := hb4
        rw [h2, hρ] at hb4
        exact ⟨c, hb4, hb5, hb6⟩
      · cases hb2
  have keep : ∀ y yb d, y ≠ b → h.get y = .live yb → ρ y = some d → yb.solid d → w'.heap[d.1]? = w.heap[d.1]? := fun y yb d hy hyb hd hs => by
    refine hJ.keep d.1 (hI.sim.inside y yb d hyb hd hs) fun ho => ?_
    obtain ⟨c, k1, k2, k3⟩ := owned_of _ ho
    exact hI.sim.apart b y _ yb c d (by rw [hb]; rfl) hyb (Ne.symm hy) k1 hd rfl k2 hs k3
  refine ⟨⟨?_, ?_, ?_, ?_, ?_, ?_, ?_, ?_, ?_⟩, hI.agree, hI.sameBase, hJ.os.trans hI.os, hJ.tape.trans hI.tape, hJ.output.trans hI.output, Nat.le_trans hI.size hsz, ?_, ?_⟩
  · intro x blk hx
    rcases ent x blk hx with ⟨h1, h2⟩ | ⟨h1, h2⟩
    · exact hI.sim.some_ x blk h2
    · rw [h1]; exact hI.sim.some_ b _ (by rw [hb]; rfl)
  · intro x blk c hx hc
    rcases ent x blk hx with ⟨h1, h2⟩ | ⟨h1, h2⟩
    · exact (hI.sim.cells x blk c h2 hc).of_cell fun hpos o => cell_of_heap (keep x blk c h1 h2 hc (.inl hpos)) o
    · subst h1; subst h2
      exact vals_free (hJ.sim.cells es.length _ c (by rw [getN]; rfl) (by rw [agr]; exact hc))
  · intro x blk c hx hc hs
    rcases ent x blk hx with ⟨h1, h2⟩ | ⟨h1, h2⟩
    · have := hI.sim.inside x blk c h2 hc hs; omega
    · subst h1; subst h2
      exact hJ.sim.inside es.length _ c (by rw [getN]; rfl) (by rw [agr]; exact hc) hs
  · intro x blk c hx hc hr hs
    rcases ent x blk hx with ⟨h1, h2⟩ | ⟨h1, h2⟩
    · obtain ⟨k1, cs, el, k2, k3⟩ := hI.sim.own x blk c h2 hc hr hs
      exact ⟨k1, cs, el, by rw [keep x blk c h1 h2 hc hs]; exact k2, k3⟩
    · subst h1; subst h2
      exact hJ.sim.own es.length _ c (by rw [getN]; rfl) (by rw [agr]; exact hc) rfl hs
  · intro x y xb yb c d hx hy hne hc hd hr hs hs'
    rcases ent x xb hx with ⟨h1, h2⟩ | ⟨h1, h2⟩
    · rcases ent y yb hy with ⟨k1, k2⟩ | ⟨k1, k2⟩
      · exact hI.sim.apart x y xb yb c d h2 k2 hne hc hd hr hs hs'
      · subst k1; subst k2
        exact (hI.sim.apart y x _ xb d c (by rw [hb]; rfl) h2 (Ne.symm hne) hd hc rfl (sol d hs') hs).symm
    · subst h1; subst h2
      rcases ent y yb hy with ⟨k1, k2⟩ | ⟨k1, k2⟩
      · exact hI.sim.apart x y _ yb c d (by rw [hb]; rfl) k2 hne hc hd rfl (sol c hs) hs'
      · exact absurd k1.symm hne
  · intro x hx
    rw [Heap.get_upd] at hx
    split at hx
    · cases hx
    · exact hI.sim.dom x hx
  · have := hI.sim.baseLe; omega
  · intro i hi
    have h1 := hJ.sim.old i (by rw [show ρg'.base = ρg.base from hJ.sameBase, hgb]; exact hi)
    rw [h1, show ρg'.base = ρg.base from hJ.sameBase, hgb]
  · intro x blk c hx hc hr hs
    rcases ent x blk hx with ⟨h1, h2⟩ | ⟨h1, h2⟩
    · exact hI.sim.above x blk c h2 hc hr hs
    · subst h1; subst h2
      exact hI.sim.above x _ c (by rw [hb]; rfl) hc rfl (sol c hs)
  · intro i hi hno
    have hi2 : i < w.heap.size := by have := hI.size; omega
    rw [show w'.heap[i]? = w.heap[i]? from hJ.keep i hi2 fun ho => ?_]
    · exact hI.keep i hi hno
    · obtain ⟨c, k1, k2, k3⟩ := owned_of _ ho
      rcases hI.fresh b _ c (by rw [hb]; rfl) k1 rfl k2 with h1 | h1
      · omega
      · rw [k3] at h1; exact hno h1
  · intro x blk c hx hc hr hs
    rcases ent x blk hx with ⟨h1, h2⟩ | ⟨h1, h2⟩
    · exact hI.fresh x blk c h2 hc hr hs
    · subst h1; subst h2
      exact hI.fresh x _ c (by rw [hb]; rfl) hc rfl (sol c hs)
def Acts.summ {P : Program} {f : FuncId} {s : Sh} {ss rs : List Sh} {law : s.T → Sh.Ts ss → Option (s.T × Sh.Ts rs)} (hr : Acts P f s ss rs law) (hrs : Sh.nes rs = 0) : Summ P where
  f := f
  S := fun H new args K => actsS (P := P) s ss rs law H new args K
  ok := by
    intro β H new args K r hs
    unfold actsS at hs
    split at hs
    case h_2 => cases hs
    rename_i b rest
    split at hs
    case h_2 => cases hs
    rename_i cs hHb
    split at hs
    case h_2 => cases hs
    rename_i m hdec
    split at hs
    case h_2 => cases hs
    rename_i x bs c hv
    split at hs
    · cases hs
    rename_i hnb
    obtain ⟨hc, hs⟩ := ifK_some hs
    rw [Option.bind_eq_some_iff] at hs
    obtain ⟨⟨m', y⟩, hy, hs⟩ := hs
    refine ⟨_, hs, fun Γ ρ h w cargs hI hargs hH hn hfree => ?_⟩
    obtain ⟨hfl, hcs⟩ := dec_ok s cs m [] hdec
    rw [List.append_nil] at hcs
    have hb : h.get b = mEnt s m := by rw [hH b (List.mem_cons_self ..), hHb, hcs]; rfl
    cases hca : cargs.toList with
    | nil => rw [hca] at hargs; simp [VRs] at hargs
    | cons a0 as0 =>
      rw [hca] at hargs
      simp only [VRs] at hargs
      obtain ⟨hp, hrest⟩ := hargs
      have bsne : ∀ b' ∈ bs, b' ≠ b := fun b' hb' e => by
        subst e
        have : bs.contains b' = true := by simpa using hb'
        rw [this] at hnb; cases hnb
      have hvw := viewArgs_ok (Q := fun b' => b' ≠ b) hI.sim ss rest as0 hrest x bs c hv (fun b' hb' => hH b' (List.mem_cons_of_mem _ hb')) bsne hc
      obtain ⟨ρv, hvb, h1, h2, h9⟩ := sim_views hI.sim.baseLe hI.sim.old hvw
      have hlen := entss_length ss x
      let ρg : Ren := ⟨fun i => if i = (Sh.entss ss x).length then ρ b else if i < (Sh.entss ss x).length then ρv i else none, ρ.base⟩
      have ρlt : ∀ i, i < (Sh.entss ss x).length → ρg i = ρv i := fun i hi => by
        simp only [ρg]; rw [if_neg (by omega), if_pos hi]
      have ρN : ρg (Sh.entss ss x).length = ρ b := by simp only [ρg]; rw [if_pos trivial]
      have vle2 : ρv.le ρg := ⟨fun i d hi => by
        by_cases hl : i < (Sh.entss ss x).length
        · rw [ρlt i hl]; exact hi
        · have := h2.dom i (by simp [Heap.get, List.getD_eq_getElem?_getD, List.getElem?_eq_none (show (Sh.entss ss x).length ≤ i by omega)])
          rw [this] at hi; exact absurd hi (by simp), hvb.symm⟩
      have ent : ∀ i blk, Heap.get (Sh.entss ss x ++ [mEnt s m]) i = .live blk → (i < (Sh.entss ss x).length ∧ Heap.get (Sh.entss ss x) i = .live blk ∧ blk.rw = false) ∨ (i = (Sh.entss ss x).length ∧ h.get b = .live blk ∧ blk = { cells := .lit ((s.enc m).map .val), rw := true }) := fun i blk hi => by
        rw [get_snoc] at hi
        split at hi
        · rename_i hl; exact .inl ⟨hl, hi, entss_norw hi⟩
        · split at hi
          · rename_i h9; exact .inr ⟨h9, by rw [hb]; exact hi, by unfold mEnt at hi; injection hi with hi; exact hi.symm⟩
          · cases hi
      have solro : ∀ (blk : Blk) d, blk.rw = false → blk.solid d → 0 < blk.cells.len := fun blk d hr hs => by
        rcases hs with hs | hs
        · exact hs
        · rw [hr] at hs; exact absurd hs.1 (by simp)
      have hsim : Sim ρg (Sh.entss ss x ++ [mEnt s m]) w := by
        refine ⟨fun i blk hi => ?_, fun i blk d hi hd => ?_, fun i blk d hi hd hs => ?_, fun i blk d hi hd hr hs => ?_, fun i j blk blk' d d' hi hj hij hd hd' hr hs hs' => ?_, fun i hi => ?_, hI.sim.baseLe, hI.sim.old, fun i blk d hi hd hr hs => ?_⟩
        · rcases ent i blk hi with ⟨k1, k2, k3⟩ | ⟨k1, k2, k3⟩
          · rw [ρlt i k1]; exact h2.some_ i blk k2
          · rw [k1, ρN]; exact hI.sim.some_ b blk k2
        · rcases ent i blk hi with ⟨k1, k2, k3⟩ | ⟨k1, k2, k3⟩
          · rw [ρlt i k1] at hd; exact (h2.cells i blk d k2 hd).mono vle2
          · rw [k1, ρN] at hd
            have := hI.sim.cells b blk d k2 hd
            rw [k3] at this ⊢
            exact vals_free this
        · rcases ent i blk hi with ⟨k1, k2, k3⟩ | ⟨k1, k2, k3⟩
          · rw [ρlt i k1] at hd; exact h2.inside i blk d k2 hd hs
          · rw [k1, ρN] at hd; exact hI.sim.inside b blk d k2 hd hs
        · rcases ent i blk hi with ⟨k1, k2, k3⟩ | ⟨k1, k2, k3⟩
          · rw [k3] at hr; cases hr
          · rw [k1, ρN] at hd; exact hI.sim.own b blk d k2 hd hr hs
        · rcases ent i blk hi with ⟨k1, k2, k3⟩ | ⟨k1, k2, k3⟩
          · rw [k3] at hr; cases hr
          · rw [k1, ρN] at hd
            rcases ent j blk' hj with ⟨j1, j2, j3⟩ | ⟨j1, j2, j3⟩
            · rw [ρlt j j1] at hd'
              obtain ⟨b', bk, cc, q1, q2, q3, q4, q5⟩ := h9 j blk' d' j2 hd' (solro blk' d' j3 hs')
              rw [← q5]
              exact hI.sim.apart b b' blk bk d cc k2 q2 (Ne.symm q1) hd q3 hr hs q4
            · exact absurd (k1.trans j1.symm) hij
        · by_cases hl : i < (Sh.entss ss x).length
          · rw [ρlt i hl]; refine h2.dom i ?_
            rw [get_snoc, if_pos hl] at hi; exact hi
          · by_cases hl2 : i = (Sh.entss ss x).length
            · rw [get_snoc, if_neg hl, if_pos hl2] at hi; cases hi
            · simp only [ρg]; rw [if_neg hl2, if_neg hl]
        · rcases ent i blk hi with ⟨k1, k2, k3⟩ | ⟨k1, k2, k3⟩
          · rw [k3] at hr; cases hr
          · rw [k1, ρN] at hd; exact hI.sim.above b blk d k2 hd hr hs
      have hargsg : VRs ρg (.ptr (Sh.nes ss) 0 :: Sh.args ss x 0) cargs.toList := by
        rw [hca]
        simp only [VRs]
        refine ⟨?_, VRs.mono vle2 _ _ h1⟩
        simp only [VR] at hp ⊢
        rw [← hlen, ρN]; exact hp
      refine (hr m x m' y hy ρg w cargs hsim hargsg).mono fun e w' ⟨ρg', cv, he, hvv, hJ⟩ => ?_
      have hfin := after_mut hI hfl hb (es := Sh.entss ss x) (fun i blk hi => entss_norw hi) (ρg := ρg) ρN rfl hJ
      exact ⟨ρ, cv, he, Ren.le_refl ρ, outV_shift rs y 0 0 (fun k hk => by omega) hvv, hfin⟩
end Go.Ab
namespace Go.Ab
abbrev U3 : List Sh := [.int .u64, .int .u64, .int .u64]
abbrev U2 : List Sh := [.int .u64, .int .u64]
def add64Law (x : Sh.Ts U3) : Option (Sh.Ts U2) :=
  bif decide (Int.toNat x.2.2.1 ≤ 1) then some ((((Int.toNat x.1 + Int.toNat x.2.1 + Int.toNat x.2.2.1) % 18446744073709551616 : Nat) : Int), (((Int.toNat x.1 + Int.toNat x.2.1 + Int.toNat x.2.2.1) / 18446744073709551616 : Nat) : Int), ()) else none
def sub64Law (x : Sh.Ts U3) : Option (Sh.Ts U2) :=
  bif decide (Int.toNat x.2.2.1 ≤ 1) then some ((((Int.toNat x.1 + 18446744073709551616 - Int.toNat x.2.1 - Int.toNat x.2.2.1) % 18446744073709551616 : Nat) : Int), (if Int.toNat x.1 < Int.toNat x.2.1 + Int.toNat x.2.2.1 then 1 else 0 : Int), ()) else none
def sub64Entry : Array Value → Sem Value := fun args => do
  let (x, y, b) ← Extern.MathBitsCarry.three "Sub64" args
  pure (Extern.MathBitsCarry.pair ((x + Extern.MathBitsCarry.m64 - y - b) % Extern.MathBitsCarry.m64) (if x < y + b then 1 else 0))
theorem run_three {P : Program} (nm : String) (x y c : Int) (hc : c.toNat ≤ 1) (w : World) : (Extern.MathBitsCarry.three nm #[.int .u64 x, .int .u64 y, .int .u64 c]).run P w = .ok (x.toNat, y.toNat, c.toNat) w := by
  have h : Extern.MathBitsCarry.three nm #[.int .u64 x, .int .u64 y, .int .u64 c] = (do
    let c := (← asInt (.int .u64 c)).toNat
    if c > 1 then unsupported (.noEntry ("extern/math/bits." ++ nm ++ ": a carry that is neither 0 nor 1"))
    pure ((← asInt (.int .u64 x)).toNat, (← asInt (.int .u64 y)).toNat, c)) := rfl
  have hi : ∀ (k : IntKind) (v : Int) (w : World), (asInt (.int k v)).run P w = .ok v w := fun _ _ _ => rfl
  rw [h]
  simp only [Sem.run_bind, hi, Result.andThen]
  rw [if_neg (by omega)]
  simp only [Sem.run_bind, hi, Result.andThen, Sem.run_pure]
theorem Reads.of_extern {P : Program} {f : FuncId} {fn : Func} {e : Array Value → Sem Value} (hf : P.funcs[f]? = some fn) (hname : (fn.name == "runtime.NumGoroutine") = false) (hb : fn.body.isNone = true) (hn : Extern.findNext fn = none) (he : Extern.find fn = some e) {law : Sh.Ts U3 → Option (Sh.Ts U2)}
    (hl : ∀ (a b c : Int) y, law (a, b, c, ()) = some y → ∀ w, (e #[.int .u64 a, .int .u64 b, .int .u64 c]).run P w = .ok (.tuple #[.int .u64 y.1, .int .u64 y.2.1]) w) : Reads P f U3 U2 law := by
  intro x y hxy ρ w cargs hsim hargs
  obtain ⟨a, b, c, u⟩ := x
  cases u
  have hc : cargs = #[.int .u64 a, .int .u64 b, .int .u64 c] := by
    have h1 : ∀ l, VRs ρ [.val (.int .u64 a), .val (.int .u64 b), .val (.int .u64 c)] l → l = [.int .u64 a, .int .u64 b, .int .u64 c] := by
      intro l hl
      match l, hl with
      | [p, q, r], hl =>
        simp only [VRs, VR] at hl
        rw [hl.1, hl.2.1, hl.2.2.1]
      | [], hl => simp [VRs] at hl
      | [_], hl => simp [VRs] at hl
      | [_, _], hl => simp [VRs] at hl
      | _ :: _ :: _ :: _ :: _, hl => simp [VRs] at hl
    have h2 := h1 cargs.toList hargs
    exact Array.toList_inj.1 h2
  subst hc
  unfold Invokes
  rw [run_callFunc_extern hf hname hb hn he, hl a b c y hxy]
  simp only [Result.andThen]
  refine ⟨ρ, _, rfl, ?_, ?_⟩
  · obtain ⟨p, q, u⟩ := y
    simp only [outV, Sh.args, Sh.arg, resV, VR]
    exact ⟨_, rfl, by simp [VRs, VR]⟩
  · exact ⟨hsim, fun _ _ => rfl, rfl, rfl, rfl, rfl, Nat.le_refl _, fun _ _ _ => rfl, fun b blk d hb hd hrw hs => by
      have : Heap.get (Sh.entss U3 (a, b, c, ()) ++ newEnts U2 y) b = .free := by
        obtain ⟨p, q, u⟩ := y
        rfl
      exact absurd hb (by
        intro hb
        have h9 : Heap.get ([] : Heap) b = .live blk := hb
        simp [Heap.get] at h9)⟩
theorem add64_run {P : Program} (a b c : Int) (y : Sh.Ts U2) (h : add64Law (a, b, c, ()) = some y) (w : World) : (add64Entry #[.int .u64 a, .int .u64 b, .int .u64 c]).run P w = .ok (.tuple #[.int .u64 y.1, .int .u64 y.2.1]) w := by
  unfold add64Law at h
  cases hc : decide (Int.toNat c ≤ 1) with
  | false => simp only [hc, cond_false] at h; cases h
  | true =>
    simp only [hc, cond_true] at h
    injection h with h; subst h
    have hc : Int.toNat c ≤ 1 := by simpa using hc
    simp only [add64Entry, Sem.run_bind, run_three _ _ _ _ hc, Result.andThen, Sem.run_pure, Extern.MathBitsCarry.pair, Extern.MathBitsCarry.m64]
    rfl
theorem sub64_run {P : Program} (a b c : Int) (y : Sh.Ts U2) (h : sub64Law (a, b, c, ()) = some y) (w : World) : (sub64Entry #[.int .u64 a, .int .u64 b, .int .u64 c]).run P w = .ok (.tuple #[.int .u64 y.1, .int .u64 y.2.1]) w := by
  unfold sub64Law at h
  cases hc : decide (Int.toNat c ≤ 1) with
  | false => simp only [hc, cond_false] at h; cases h
  | true =>
    simp only [hc, cond_true] at h
    injection h with h; subst h
    have hc : Int.toNat c ≤ 1 := by simpa using hc
    simp only [sub64Entry, Sem.run_bind, run_three _ _ _ _ hc, Result.andThen, Sem.run_pure, Extern.MathBitsCarry.pair, Extern.MathBitsCarry.m64]
    split <;> rfl
end Go.Ab
