/-
  CORE 30: the arguments of a row, opened: what is read as data is a pure value, its slices blocks that lay there.
-/
import Derived.Test.YtiikkepnpidilaaCore16
import Derived.OpenShut
import Derived.WideShapes
import Derived.ChangeOld
import Derived.Carry
set_option linter.unusedVariables false
set_option linter.unusedSimpArgs false
namespace Go.Ab

mutual
/-- Does a type have the shape? -/
def Sh.fits (P : Program) : Sh → TypeId → Bool
  | .int k, t => decide (P.cellsOf t = 1) && (match P.underlying t with
    | some (.int k') => decide (k' = k)
    | _ => false)
  | .bool, t => decide (P.cellsOf t = 1) && (match P.underlying t with
    | some .bool => true
    | _ => false)
  | .str, t => decide (P.cellsOf t = 1) && (match P.underlying t with
    | some .string => true
    | _ => false)
  | .st l, t => decide (P.cellsOf t = Sh.ws l) && (match P.underlying t with
    | some (.struct fs) => Sh.fitsF P l fs.toList 0
    | some (.array n e) => decide (l.length = n) && Sh.fitsE P l e
    | _ => false)
  | .sl e, t => decide (P.cellsOf t = 1) && (match P.underlying t with
    | some (.slice el) => Sh.flat e && Sh.fits P e el && decide (0 < Sh.w e)
    | _ => false)
  | .rows e, t => decide (P.cellsOf t = 1) && (match P.underlying t with
    | some (.slice el) => decide (P.cellsOf el = 1) && (match P.underlying el with
      | some (.slice el2) => Sh.flat e && Sh.fits P e el2 && decide (Sh.w e = 1)
      | _ => false)
    | _ => false)
def Sh.fitsF (P : Program) : List Sh → List Field → Nat → Bool
  | [], [], _ => true
  | s :: l, f :: fs, o => decide (f.offset = o) && Sh.fits P s f.type && Sh.fitsF P l fs (o + Sh.w s)
  | _, _, _ => false
def Sh.fitsE (P : Program) : List Sh → TypeId → Bool
  | [], _ => true
  | s :: l, e => Sh.fits P s e && Sh.fitsE P l e
end

theorem fits_cells {P : Program} {s : Sh} {t : TypeId} (h : s.fits P t = true) : P.cellsOf t = s.w := by
  cases s <;> simp only [Sh.fits, Bool.and_eq_true, decide_eq_true_eq] at h <;> simp [Sh.w, h.1]

theorem wf_range {k : IntKind} {n : Int} (h : (Lit.int k n).wf = true) : k.min ≤ n ∧ n ≤ k.max := by
  simpa [Lit.wf] using h

section
variable {H : Type} {enc : TypeId × Value → H} {P : Program} {W : World} {sp : Nat → Bool}

mutual
theorem flat_open : ∀ (s : Sh) (fuel : Nat) (t : TypeId) (cs : List Value) (x : DataW H × List MemPlace), s.flat = true → s.fits P t = true → DataW.trod enc P W 0 sp true fuel t cs = some x → ∃ y : s.T, s.ok y ∧ cs = s.enc y
  | .int k, fuel, t, cs, x, _, hf, h => by
    simp only [Sh.fits, Bool.and_eq_true] at hf
    have hf := hf.2
    split at hf
    · rename_i k' hu
      have hk : k' = k := by simpa using hf
      subst hk
      obtain ⟨n, h1, _, h3⟩ := DataW.trod_int hu h
      exact ⟨n, by simp only [Sh.ok]; exact wf_range h3, h1⟩
    · cases hf
  | .bool, fuel, t, cs, x, _, hf, h => by
    simp only [Sh.fits, Bool.and_eq_true] at hf
    have hf := hf.2
    split at hf
    · rename_i hu
      obtain ⟨b, h1, _⟩ := DataW.trod_bool hu h
      exact ⟨b, by simp [Sh.ok], h1⟩
    · cases hf
  | .str, fuel, t, cs, x, _, hf, h => by
    simp only [Sh.fits, Bool.and_eq_true] at hf
    have hf := hf.2
    split at hf
    · rename_i hu
      obtain ⟨b, h1, _, h2⟩ := DataW.trod_string hu h
      exact ⟨b, by simp only [Sh.ok]; simpa [maxLen] using h2, h1⟩
    · cases hf
  | .st l, fuel, t, cs, x, hfl, hf, h => by
    simp only [Sh.fits, Bool.and_eq_true, decide_eq_true_eq] at hf
    obtain ⟨hw, hf⟩ := hf
    simp only [Sh.flat] at hfl
    split at hf
    · rename_i fs hu
      obtain ⟨xs, n, _, _, hlen, hxl, hat⟩ := DataW.trod_struct hu h
      obtain ⟨y, h1, h2⟩ := flat_fields l fs.toList 0 n cs xs hfl hf (by simpa using hxl) (fun i f hi => hat i f (by simpa using hi)) (by rw [hlen, hw]; simp)
      exact ⟨y, by simpa [Sh.ok] using h1, by simpa [Sh.enc] using h2⟩
    · rename_i n e hu
      simp only [Bool.and_eq_true, decide_eq_true_eq] at hf
      obtain ⟨xs, m, _, _, hlen, hxl, hat⟩ := DataW.trod_array hu h
      obtain ⟨y, h1, h2⟩ := flat_elems l e 0 m cs xs hfl hf.2 (fun i hi => by
        have := hat i (by omega)
        rw [Nat.zero_add]; exact this) (by omega) (by rw [hlen, hw]; simp)
      exact ⟨y, by simpa [Sh.ok] using h1, by simpa [Sh.enc] using h2⟩
    · cases hf
  | .sl _, _, _, _, _, h, _, _ => by simp [Sh.flat] at h
  | .rows _, _, _, _, _, h, _, _ => by simp [Sh.flat] at h
theorem flat_fields : ∀ (l : List Sh) (fs : List Field) (o n : Nat) (cs : List Value) (xs : List (DataW H × List MemPlace)), Sh.flats l = true → Sh.fitsF P l fs o = true → xs.length = fs.length →
    (∀ (i : Nat) (f : Field), fs[i]? = some f → DataW.trod enc P W 0 sp true n f.type ((cs.drop f.offset).take (P.cellsOf f.type)) = xs[i]?) → cs.length = o + Sh.ws l → ∃ y : Sh.Ts l, Sh.oks l y ∧ cs.drop o = Sh.encs l y
  | [], [], o, n, cs, xs, _, _, _, _, hl => ⟨(), by simp [Sh.oks], by simp [Sh.encs, Sh.ws] at hl ⊢; omega⟩
  | [], _ :: _, o, n, cs, xs, _, hf, _, _, _ => by simp [Sh.fitsF] at hf
  | _ :: _, [], o, n, cs, xs, _, hf, _, _, _ => by simp [Sh.fitsF] at hf
  | s :: l, f :: fs, o, n, cs, xs, hfl, hf, hx, hat, hl => by
    simp only [Sh.flats, Bool.and_eq_true] at hfl
    simp only [Sh.fitsF, Bool.and_eq_true, decide_eq_true_eq] at hf
    obtain ⟨⟨ho, hfs⟩, hfr⟩ := hf
    cases xs with
    | nil => simp at hx
    | cons x xs =>
      have h0 := hat 0 f rfl
      rw [ho, fits_cells hfs] at h0
      obtain ⟨y, h1, h2⟩ := flat_open s n f.type _ x hfl.1 hfs h0
      obtain ⟨ys, h3, h4⟩ := flat_fields l fs (o + s.w) n cs xs hfl.2 hfr (by simpa using hx) (fun i g hi => by simpa using hat (i + 1) g (by simpa using hi)) (by simp only [Sh.ws] at hl; omega)
      refine ⟨(y, ys), by simp only [Sh.oks]; exact ⟨h1, h3⟩, ?_⟩
      simp only [Sh.encs]
      rw [← h2, ← h4, ← List.drop_drop, List.take_append_drop]
theorem flat_elems : ∀ (l : List Sh) (e : TypeId) (k n : Nat) (cs : List Value) (xs : List (DataW H × List MemPlace)), Sh.flats l = true → Sh.fitsE P l e = true →
    (∀ (i : Nat), i < l.length → DataW.trod enc P W 0 sp true n e ((cs.drop ((k + i) * P.cellsOf e)).take (P.cellsOf e)) = xs[k + i]?) → k + l.length ≤ xs.length → cs.length = k * P.cellsOf e + Sh.ws l → ∃ y : Sh.Ts l, Sh.oks l y ∧ cs.drop (k * P.cellsOf e) = Sh.encs l y
  | [], e, k, n, cs, xs, _, _, _, _, hl => ⟨(), by simp [Sh.oks], by simp [Sh.encs, Sh.ws] at hl ⊢; omega⟩
  | s :: l, e, k, n, cs, xs, hfl, hf, hat, hx, hl => by
    simp only [Sh.flats, Bool.and_eq_true] at hfl
    simp only [Sh.fitsE, Bool.and_eq_true] at hf
    have hc := fits_cells hf.1
    have h0 := hat 0 (by simp)
    simp only [Nat.add_zero] at h0
    simp only [List.length_cons] at hx
    obtain ⟨x, hx0⟩ : ∃ x, xs[k]? = some x := ⟨xs[k]'(by omega), List.getElem?_eq_getElem _⟩
    rw [hx0] at h0
    obtain ⟨y, h1, h2⟩ := flat_open s n e _ x hfl.1 hf.1 h0
    obtain ⟨ys, h3, h4⟩ := flat_elems l e (k + 1) n cs xs hfl.2 hf.2 (fun i hi => by
      have := hat (i + 1) (by simpa using hi)
      rw [show k + (i + 1) = k + 1 + i by omega] at this; exact this) (by omega) (by simp only [Sh.ws] at hl; rw [Nat.add_mul, hl, hc]; omega)
    refine ⟨(y, ys), by simp only [Sh.oks]; exact ⟨h1, h3⟩, ?_⟩
    simp only [Sh.encs]
    rw [← h2, ← h4, Nat.add_mul, Nat.one_mul, ← List.drop_drop, List.take_append_drop]
end

theorem cells?_spec {a : Addr} {n : Nat} {cs : List Value} (h : W.cells? 0 a n = some cs) : cs.length = n ∧ ∀ (j : Nat) (v : Value), cs[j]? = some v → W.cell? (a.add j) = some v := by
  simp only [World.cells?, Nat.zero_le, if_true] at h
  have key : ∀ (l : List Nat) (cs : List Value), (l.mapM fun i => W.cell? (a.add i)) = some cs → cs.length = l.length ∧ ∀ (j : Nat) (v : Value), cs[j]? = some v → ∃ i, l[j]? = some i ∧ W.cell? (a.add i) = some v := by
    intro l
    induction l with
    | nil => intro cs h; simp at h; subst h; exact ⟨rfl, fun j v hj => by simp at hj⟩
    | cons i l ih =>
      intro cs h
      simp only [List.mapM_cons, Option.bind_eq_bind, Option.bind_eq_some_iff] at h
      obtain ⟨v0, h0, cs', h1, h2⟩ := h
      simp at h2; subst h2
      obtain ⟨i1, i2⟩ := ih cs' h1
      refine ⟨by simp [i1], fun j v hj => ?_⟩
      cases j with
      | zero => simp at hj; subst hj; exact ⟨i, rfl, h0⟩
      | succ j => simpa using i2 j v (by simpa using hj)
  obtain ⟨h1, h2⟩ := key _ cs h
  refine ⟨by simpa using h1, fun j v hj => ?_⟩
  obtain ⟨i, h3, h4⟩ := h2 j v hj
  have : i = j := by
    rw [List.getElem?_eq_some_iff] at h3
    obtain ⟨h5, h6⟩ := h3
    simpa using h6.symm
  rw [← this]; exact h4

theorem getElem?_flatMap_block {α : Type} (f : α → List Value) (w : Nat) (hw : 0 < w) : ∀ (l : List α), (∀ y ∈ l, (f y).length = w) → ∀ (j : Nat), (l.flatMap f)[j]? = (l[j / w]?).bind fun y => (f y)[j % w]?
  | [], _, j => by simp
  | y :: l, h, j => by
    have hy := h y (List.mem_cons_self ..)
    rw [List.flatMap_cons]
    by_cases hj : j < w
    · rw [List.getElem?_append_left (by omega), Nat.div_eq_of_lt hj, Nat.mod_eq_of_lt hj]; simp
    · rw [List.getElem?_append_right (by omega), hy, getElem?_flatMap_block f w hw l (fun z hz => h z (List.mem_cons_of_mem _ hz))]
      have e1 : j / w = (j - w) / w + 1 := by
        rw [Nat.div_eq_sub_div hw (by omega)]
      have e2 : j % w = (j - w) % w := by
        rw [Nat.mod_eq_sub_mod (by omega)]
      rw [e1, e2]; simp

/-- A slice of what holds no slice. -/
theorem slice_open {e : Sh} {el : TypeId} {n : Nat} {a : Addr} {len : Nat} {elems : List (DataW H × List MemPlace)} (hfl : e.flat = true) (hf : e.fits P el = true) (hw : 0 < e.w) (hlen : elems.length = len)
    (hat : ∀ i, i < len → (W.cells? 0 (a.add (i * P.cellsOf el)) (P.cellsOf el)).bind (DataW.trod enc P W 0 sp true n el) = elems[i]?) :
    ∃ y : List e.T, y.length = len ∧ (∀ z ∈ y, e.ok z) ∧ ∀ (j : Nat) (v : Value), (y.flatMap e.enc)[j]? = some v → W.cell? (a.add j) = some v := by
  have hc := fits_cells hf
  have key : ∀ k, k ≤ len → ∃ y : List e.T, y.length = k ∧ (∀ z ∈ y, e.ok z) ∧ ∀ (i : Nat) (z : e.T), y[i]? = some z → ∀ (j : Nat) (v : Value), (e.enc z)[j]? = some v → W.cell? (a.add (i * e.w + j)) = some v := by
    intro k
    induction k with
    | zero => intro _; exact ⟨[], rfl, by simp, by simp⟩
    | succ k ih =>
      intro hk
      obtain ⟨y, h1, h2, h3⟩ := ih (by omega)
      have h4 := hat k (by omega)
      obtain ⟨x, hx⟩ : ∃ x, elems[k]? = some x := ⟨elems[k]'(by omega), List.getElem?_eq_getElem _⟩
      rw [hx, Option.bind_eq_some_iff] at h4
      obtain ⟨cs, h5, h6⟩ := h4
      obtain ⟨z, h7, h8⟩ := flat_open e n el cs x hfl hf h6
      obtain ⟨h9, h10⟩ := cells?_spec h5
      refine ⟨y ++ [z], by simp [h1], fun u hu => ?_, fun i u hi j v hj => ?_⟩
      · rcases List.mem_append.1 hu with hu | hu
        · exact h2 u hu
        · simp at hu; subst hu; exact h7
      · by_cases hik : i < k
        · rw [List.getElem?_append_left (by omega)] at hi
          exact h3 i u hi j v hj
        · rw [List.getElem?_append_right (by omega)] at hi
          have : i = k := by
            rcases Nat.lt_or_ge i (k + 1) with h' | h'
            · omega
            · rw [List.getElem?_eq_none (by simp; omega)] at hi; cases hi
          subst this
          simp [h1] at hi; subst hi
          have := h10 j v (by rw [h8]; exact hj)
          rw [hc] at this
          rw [← this]
          congr 1
          unfold Addr.add
          by_cases q1 : i * e.w = 0
          · simp [q1]
          · by_cases q2 : j = 0
            · simp [q2, q1]
            · rw [if_neg (by omega), if_neg q1, if_neg q2]; simp [Nat.add_assoc]
  obtain ⟨y, h1, h2, h3⟩ := key len (Nat.le_refl _)
  refine ⟨y, h1, h2, fun j v hj => ?_⟩
  rw [getElem?_flatMap_block e.enc e.w hw y (fun z _ => enc_length e z hfl), Option.bind_eq_some_iff] at hj
  obtain ⟨z, h4, h5⟩ := hj
  have := h3 (j / e.w) z h4 (j % e.w) v h5
  rw [show j / e.w * e.w + j % e.w = j from Nat.div_add_mod' j e.w] at this
  exact this

theorem spot_none {a : Addr} {v : Value} {j : Nat} (h : W.cell? (a.add j) = some v) : j = 0 → a.spot = none := by
  intro hj; subst hj
  simp only [Addr.add, if_true, World.cell?] at h
  split at h
  · split at h
    · cases h
    · rename_i hs; simpa using hs
  · cases h

def Opens (P : Program) (W : World) (s : Sh) (cs : List Value) : Prop :=
  ∃ y : s.T, s.ok y ∧ ∃ c : List (Nat × Nat × Nat), c.length = s.ne ∧ ∀ (ρ : Ren) (next : Nat), ρ.base = W → (∀ (i : Nat) (d : Nat × Nat × Nat), c[i]? = some d → ρ (next + i) = some d) →
    VRs ρ (s.cells y next) cs ∧ ∀ (i : Nat) (blk : Blk), (s.ents y)[i]? = some (.live blk) → ∃ d : Nat × Nat × Nat, c[i]? = some d ∧ CellsAt ρ W d.1 d.2.1 blk.cells

def OpensL (P : Program) (W : World) (l : List Sh) (cs : List Value) : Prop :=
  ∃ y : Sh.Ts l, Sh.oks l y ∧ ∃ c : List (Nat × Nat × Nat), c.length = Sh.nes l ∧ ∀ (ρ : Ren) (next : Nat), ρ.base = W → (∀ (i : Nat) (d : Nat × Nat × Nat), c[i]? = some d → ρ (next + i) = some d) →
    VRs ρ (Sh.cellss l y next) cs ∧ ∀ (i : Nat) (blk : Blk), (Sh.entss l y)[i]? = some (.live blk) → ∃ d : Nat × Nat × Nat, c[i]? = some d ∧ CellsAt ρ W d.1 d.2.1 blk.cells

theorem OpensL.nil : OpensL P W [] [] := ⟨(), by simp [Sh.oks], [], rfl, fun ρ next _ _ => ⟨by simp [Sh.cellss, VRs], fun i blk h => by simp [Sh.entss] at h⟩⟩
theorem OpensL.cons {s : Sh} {l : List Sh} {c1 c2 : List Value} (h1 : Opens P W s c1) (h2 : OpensL P W l c2) : OpensL P W (s :: l) (c1 ++ c2) := by
  obtain ⟨y, o1, d1, l1, f1⟩ := h1
  obtain ⟨z, o2, d2, l2, f2⟩ := h2
  refine ⟨(y, z), by simp only [Sh.oks]; exact ⟨o1, o2⟩, d1 ++ d2, by simp [Sh.nes, l1, l2], fun ρ next hb hρ => ?_⟩
  obtain ⟨a1, a2⟩ := f1 ρ next hb fun i d hi => hρ i d (by rw [List.getElem?_append_left]; exact hi; exact (List.getElem?_eq_some_iff.1 hi).1)
  obtain ⟨b1, b2⟩ := f2 ρ (next + s.ne) hb fun i d hi => by
    have := hρ (s.ne + i) d (by rw [List.getElem?_append_right (by omega), l1, Nat.add_sub_cancel_left]; exact hi)
    rw [Nat.add_assoc]; exact this
  refine ⟨by simp only [Sh.cellss]; exact a1.append b1, fun i blk hi => ?_⟩
  simp only [Sh.entss] at hi
  have el := ents_length s y
  by_cases hil : i < s.ne
  · rw [List.getElem?_append_left (by omega)] at hi
    obtain ⟨d, h3, h4⟩ := a2 i blk hi
    exact ⟨d, by rw [List.getElem?_append_left (by omega)]; exact h3, h4⟩
  · rw [List.getElem?_append_right (by omega), el] at hi
    obtain ⟨d, h3, h4⟩ := b2 (i - s.ne) blk hi
    exact ⟨d, by rw [List.getElem?_append_right (by omega), l1]; exact h3, h4⟩
end

end Go.Ab
