/- An engine that names no program: what code does to what memory shows, evaluated over abstract values and an abstract heap, and that it is so. -/
import Derived.Test.YtkobnmpilcpojaaGreatCoree
import Derived.ChangeShapes
import Derived.Below
import Derived.RowKit
set_option linter.unusedVariables false
set_option linter.unusedSimpArgs false
namespace Go.Ab
open Go.ChangeShapes Go.RowKit
section
variable {H : Type} {enc : TypeId × Value → H} {P : Program} {W : World}
theorem add_none {a : Addr} (h : a.spot = none) (j : Nat) : a.add j = ⟨a.block, a.off + j, none⟩ := by
  unfold Addr.add
  split
  · rename_i h0; subst h0; cases a; simp at h; subst h; rfl
  · first | rfl | (rw [h]; done) | (simp [h])
theorem slice_spot {e : Sh} {el : TypeId} {n : Nat} {a : Addr} {len cap : Nat} {elems rest : List (DataW H × List MemPlace)} (hw : 0 < P.cellsOf el) (hlc : len ≤ cap) (hlen : elems.length = len) (hrl : rest.length = cap - len)
    (hat : ∀ i, i < len → (W.cells? 0 (a.add (i * P.cellsOf el)) (P.cellsOf el)).bind (DataW.trod enc P W 0 (fun _ => true) true n el) = elems[i]?)
    (hrt : ∀ j, j < cap - len → (W.cells? 0 (a.add ((len + j) * P.cellsOf el)) (P.cellsOf el)).bind (DataW.trod enc P W 0 (fun _ => true) true n el) = rest[j]?) : cap = 0 ∨ a.spot = none := by
  rcases Nat.eq_zero_or_pos cap with h0 | h0
  · exact .inl h0
  refine .inr ?_
  have key : ∀ (x : Option (DataW H × List MemPlace)), (W.cells? 0 (a.add 0) (P.cellsOf el)).bind (DataW.trod enc P W 0 (fun _ => true) true n el) = x → x ≠ none → a.spot = none := by
    intro x hx hne
    cases hc : W.cells? 0 (a.add 0) (P.cellsOf el) with
    | none => rw [hc] at hx; exact absurd hx.symm hne
    | some cs =>
      obtain ⟨h1, h2⟩ := cells?_spec hc
      have h3 := h2 0 cs[0] (List.getElem?_eq_getElem (by omega))
      have : (a.add 0).add 0 = a.add 0 := by simp [Addr.add]
      rw [this] at h3
      exact spot_none h3 rfl
  by_cases hl : 0 < len
  · have := hat 0 hl
    rw [Nat.zero_mul] at this
    exact key _ this (by rw [List.getElem?_eq_getElem (by omega)]; simp)
  · have := hrt 0 (by omega)
    rw [show len + 0 = 0 by omega, Nat.zero_mul] at this
    exact key _ this (by rw [List.getElem?_eq_getElem (by omega)]; simp)
theorem flatMap_one_length {α : Type} (f : α → List Value) : ∀ (l : List α), (∀ y ∈ l, (f y).length = 1) → (l.flatMap f).length = l.length
  | [], _ => rfl
  | y :: l, h => by
    rw [List.flatMap_cons, List.length_append, h y (List.mem_cons_self ..), flatMap_one_length f l fun z hz => h z (List.mem_cons_of_mem _ hz), List.length_cons, Nat.add_comm]
theorem row_open {e : Sh} {el el2 : TypeId} (hu : P.underlying el = some (.slice el2)) (hfl : e.flat = true) (hf : e.fits P el2 = true) (hw : e.w = 1) {fuel : Nat} {cs : List Value} {x : DataW H × List MemPlace}
    (h : DataW.trod enc P W 0 (fun _ => true) true fuel el cs = some x) : ∃ y : List e.T, ((∀ z ∈ y, e.ok z) ∧ y.length ≤ 9223372036854775807) ∧ ∃ cv, cs = [cv] ∧ RowIn W cv (y.flatMap e.enc) := by
  rcases DataW.trod_slice hu h with ⟨h1, _⟩ | ⟨a, len, cap, elems, rest, n, _, h1, _, _, hlc, hcm, hel, hat, hrt, _⟩
  · exact ⟨[], ⟨by simp, by simp⟩, _, h1, .inl ⟨rfl, none, rfl⟩⟩
  · obtain ⟨y, h2, h3, h4⟩ := slice_open hfl hf (by omega) hel hat
    have hc := fits_cells hf
    have hlen : (y.flatMap e.enc).length = len := by rw [flatMap_one_length _ _ fun z _ => by rw [enc_length e z hfl, hw], h2]
    refine ⟨y, ⟨h3, by simp only [maxLen] at hcm; omega⟩, _, h1, ?_⟩
    obtain ⟨hr1, hr2⟩ := hrt rfl
    rcases slice_spot (e := e) (by omega) hlc hel hr1 hat hr2 with h5 | h5
    · have hl0 : len = 0 := by omega
      subst hl0; subst h5
      exact .inl ⟨List.length_eq_zero_iff.1 hlen, _, rfl⟩
    · refine .inr ⟨a.block, a.off, cap, ?_, by omega, fun j v hj => ?_⟩
      · rw [hlen]; cases a; simp at h5; subst h5; rfl
      · rw [← add_none h5]; exact h4 j v hj
theorem Opens.flat0 {s : Sh} {cs : List Value} {y : s.T} (hy : s.ok y) (hn : s.ne = 0) (hv : ∀ (ρ : Ren) next, VRs ρ (s.cells y next) cs) : Opens P W s cs :=
  ⟨y, hy, [], hn.symm, fun ρ next _ _ => ⟨hv ρ next, fun i blk hi => by
    have := ents_length s y
    rw [hn] at this
    rw [List.length_eq_zero_iff.1 this] at hi
    simp at hi⟩⟩
mutual
theorem open_sh : ∀ (s : Sh) (fuel : Nat) (t : TypeId) (cs : List Value) (x : DataW H × List MemPlace), s.fits P t = true → DataW.trod enc P W 0 (fun _ => true) true fuel t cs = some x → Opens P W s cs
  | .int k, fuel, t, cs, x, hf, h => by
    obtain ⟨y, h1, h2⟩ := flat_open (.int k) fuel t cs x rfl hf h
    exact .flat0 h1 rfl fun ρ next => by rw [h2]; simp [Sh.cells, Sh.enc, VRs, VR]
  | .bool, fuel, t, cs, x, hf, h => by
    obtain ⟨y, h1, h2⟩ := flat_open .bool fuel t cs x rfl hf h
    exact .flat0 h1 rfl fun ρ next => by rw [h2]; simp [Sh.cells, Sh.enc, VRs, VR]
  | .str, fuel, t, cs, x, hf, h => by
    obtain ⟨y, h1, h2⟩ := flat_open .str fuel t cs x rfl hf h
    exact .flat0 h1 rfl fun ρ next => by rw [h2]; simp [Sh.cells, Sh.enc, VRs, VR]
  | .st l, fuel, t, cs, x, hf, h => by
    simp only [Sh.fits, Bool.and_eq_true, decide_eq_true_eq] at hf
    obtain ⟨hw, hf⟩ := hf
    have key : OpensL P W l cs → Opens P W (.st l) cs := by
      rintro ⟨y, h1, c, h2, h3⟩
      exact ⟨y, h1, c, h2, h3⟩
    refine key ?_
    split at hf
    · rename_i fs hu
      obtain ⟨xs, n, _, _, hlen, hxl, hat⟩ := DataW.trod_struct hu h
      exact open_fields l fs.toList 0 n cs xs hf (by simpa using hxl) (fun i f hi => hat i f (by simpa using hi)) (by rw [hlen, hw]; simp)
    · rename_i n e hu
      simp only [Bool.and_eq_true, decide_eq_true_eq] at hf
      obtain ⟨xs, m, _, _, hlen, hxl, hat⟩ := DataW.trod_array hu h
      have := open_elems l e 0 m cs xs hf.2 (fun i hi => by
        have := hat i (by omega)
        rw [Nat.zero_add]; exact this) (by omega) (by rw [hlen, hw]; simp)
      simpa using this
    · cases hf
  | .sl e, fuel, t, cs, x, hf, h => by
    simp only [Sh.fits, Bool.and_eq_true, decide_eq_true_eq] at hf
    obtain ⟨_, hf⟩ := hf
    split at hf
    case h_2 => cases hf
    rename_i el hu
    simp only [Bool.and_eq_true, decide_eq_true_eq] at hf
    obtain ⟨⟨hfl, hfe⟩, hw⟩ := hf
    have hc := fits_cells hfe
    rcases DataW.trod_slice hu h with ⟨h1, _⟩ | ⟨a, len, cap, elems, rest, n, _, h1, _, _, hlc, hcm, hel, hat, hrt, _⟩
    · refine ⟨[], by simp [Sh.ok], [(0, 0, 0)], rfl, fun ρ next hb hρ => ⟨?_, fun i blk hi => ?_⟩⟩
      · simp only [Sh.cells, h1, VRs, VR]
        exact ⟨.inr ⟨rfl, none, rfl⟩, trivial⟩
      · simp only [Sh.ents] at hi
        cases i with
        | succ i => simp at hi
        | zero =>
          simp at hi; subst hi
          exact ⟨(0, 0, 0), rfl, fun j v hj => by simp [Sh.flatl] at hj⟩
    · obtain ⟨y, h2, h3, h4⟩ := slice_open hfl hfe hw hel hat
      obtain ⟨hr1, hr2⟩ := hrt rfl
      have hsp := slice_spot (e := e) (by omega) hlc hel hr1 hat hr2
      refine ⟨y, by simp only [Sh.ok]; exact ⟨h3, by simp only [maxLen] at hcm; omega⟩, [(a.block, a.off, 0)], rfl, fun ρ next hb hρ => ⟨?_, fun i blk hi => ?_⟩⟩
      · simp only [Sh.cells, h1, VRs, VR]
        refine ⟨?_, trivial⟩
        rcases hsp with h5 | h5
        · refine .inr ⟨by rw [h2]; omega, some a, ?_⟩
          rw [h5, show len = 0 by omega]
        · refine .inl ⟨a.block, a.off, 0, cap, by simpa using hρ 0 _ rfl, by omega, ?_⟩
          rw [h2]; cases a; simp at h5; subst h5; rfl
      · simp only [Sh.ents] at hi
        cases i with
        | succ i => simp at hi
        | zero =>
          simp at hi; subst hi
          refine ⟨(a.block, a.off, 0), rfl, fun j v hj => ?_⟩
          rcases hsp with h5 | h5
          · have : y = [] := List.length_eq_zero_iff.1 (by omega)
            subst this; simp [Sh.flatl] at hj
          · show W.cell? ⟨a.block, a.off + j, none⟩ = some v
            rw [← add_none h5]; exact h4 j v hj
  | .rows e, fuel, t, cs, x, hf, h => by
    simp only [Sh.fits, Bool.and_eq_true, decide_eq_true_eq] at hf
    obtain ⟨_, hf⟩ := hf
    split at hf
    case h_2 => cases hf
    rename_i el hu
    simp only [Bool.and_eq_true, decide_eq_true_eq] at hf
    obtain ⟨hc1, hf⟩ := hf
    split at hf
    case h_2 => cases hf
    rename_i el2 hu2
    simp only [Bool.and_eq_true, decide_eq_true_eq] at hf
    obtain ⟨⟨hfl, hfe⟩, hw⟩ := hf
    rcases DataW.trod_slice hu h with ⟨h1, _⟩ | ⟨a, len, cap, elems, rest, n, _, h1, _, _, hlc, hcm, hel, hat, hrt, _⟩
    · refine ⟨[], by simp [Sh.ok], [(0, 0, 0)], rfl, fun ρ next hb hρ => ⟨?_, fun i blk hi => ?_⟩⟩
      · simp only [Sh.cells, h1, VRs, VR]
        exact ⟨.inr ⟨rfl, none, rfl⟩, trivial⟩
      · simp only [Sh.ents] at hi
        cases i with
        | succ i => simp at hi
        | zero =>
          simp at hi; subst hi
          exact ⟨(0, 0, 0), rfl, fun j v hj => by simp at hj⟩
    · obtain ⟨hr1, hr2⟩ := hrt rfl
      have hsp := slice_spot (e := e) (by omega) hlc hel hr1 hat hr2
      have key : ∀ k, k ≤ len → ∃ y : List (List e.T), y.length = k ∧ (∀ r ∈ y, (∀ z ∈ r, e.ok z) ∧ r.length ≤ 9223372036854775807) ∧ ∀ (i : Nat) (r : List e.T), y[i]? = some r → ∃ cv, W.cell? (a.add i) = some cv ∧ RowIn W cv (r.flatMap e.enc) := by
        intro k
        induction k with
        | zero => intro _; exact ⟨[], rfl, by simp, by simp⟩
        | succ k ih =>
          intro hk
          obtain ⟨y, h2, h3, h4⟩ := ih (by omega)
          have h5 := hat k (by omega)
          obtain ⟨x, hx⟩ : ∃ x, elems[k]? = some x := ⟨elems[k]'(by omega), List.getElem?_eq_getElem _⟩
          rw [hx, Option.bind_eq_some_iff, hc1, Nat.mul_one] at h5
          obtain ⟨cs', h6, h7⟩ := h5
          obtain ⟨r, h8, cv, h9, h10⟩ := row_open hu2 hfl hfe hw h7
          obtain ⟨_, h11⟩ := cells?_spec h6
          refine ⟨y ++ [r], by simp [h2], fun r' hr' => ?_, fun i r' hi => ?_⟩
          · rcases List.mem_append.1 hr' with hr' | hr'
            · exact h3 r' hr'
            · simp at hr'; subst hr'; exact h8
          · by_cases hik : i < k
            · rw [List.getElem?_append_left (by omega)] at hi
              exact h4 i r' hi
            · rw [List.getElem?_append_right (by omega)] at hi
              have : i = k := by
                rcases Nat.lt_or_ge i (k + 1) with h' | h'
                · omega
                · rw [List.getElem?_eq_none (by simp; omega)] at hi; cases hi
              subst this
              simp [h2] at hi; subst hi
              have := h11 0 cv (by rw [h9]; rfl)
              exact ⟨cv, by simpa [Addr.add] using this, h10⟩
      obtain ⟨y, h2, h3, h4⟩ := key len (Nat.le_refl _)
      refine ⟨y, by simp only [Sh.ok]; exact ⟨h3, by simp only [maxLen] at hcm; omega⟩, [(a.block, a.off, 0)], rfl, fun ρ next hb hρ => ⟨?_, fun i blk hi => ?_⟩⟩
      · simp only [Sh.cells, h1, VRs, VR]
        refine ⟨?_, trivial⟩
        rcases hsp with h5 | h5
        · refine .inr ⟨by rw [h2]; omega, some a, ?_⟩
          rw [h5, show len = 0 by omega]
        · refine .inl ⟨a.block, a.off, 0, cap, by simpa using hρ 0 _ rfl, by omega, ?_⟩
          rw [h2]; cases a; simp at h5; subst h5; rfl
      · simp only [Sh.ents] at hi
        cases i with
        | succ i => simp at hi
        | zero =>
          simp at hi; subst hi
          refine ⟨(a.block, a.off, 0), rfl, fun j r hj => ?_⟩
          obtain ⟨cv, h6, h7⟩ := h4 j r hj
          refine ⟨cv, ?_, by rw [hb]; exact h7⟩
          rcases hsp with h5 | h5
          · have : y = [] := List.length_eq_zero_iff.1 (by omega)
            subst this; simp at hj
          · show W.cell? ⟨a.block, a.off + j, none⟩ = some cv
            rw [← add_none h5]; exact h6
theorem open_fields : ∀ (l : List Sh) (fs : List Field) (o n : Nat) (cs : List Value) (xs : List (DataW H × List MemPlace)), Sh.fitsF P l fs o = true → xs.length = fs.length →
    (∀ (i : Nat) (f : Field), fs[i]? = some f → DataW.trod enc P W 0 (fun _ => true) true n f.type ((cs.drop f.offset).take (P.cellsOf f.type)) = xs[i]?) → cs.length = o + Sh.ws l → OpensL P W l (cs.drop o)
  | [], [], o, n, cs, xs, _, _, _, hl => by
    have : cs.drop o = [] := by simp [Sh.ws] at hl ⊢; omega
    rw [this]; exact .nil
  | [], _ :: _, o, n, cs, xs, hf, _, _, _ => by simp [Sh.fitsF] at hf
  | _ :: _, [], o, n, cs, xs, hf, _, _, _ => by simp [Sh.fitsF] at hf
  | s :: l, f :: fs, o, n, cs, xs, hf, hx, hat, hl => by
    simp only [Sh.fitsF, Bool.and_eq_true, decide_eq_true_eq] at hf
    obtain ⟨⟨ho, hfs⟩, hfr⟩ := hf
    cases xs with
    | nil => simp at hx
    | cons x xs =>
      have h0 := hat 0 f rfl
      rw [ho, fits_cells hfs] at h0
      have h1 := open_sh s n f.type _ x hfs h0
      have h2 := open_fields l fs (o + s.w) n cs xs hfr (by simpa using hx) (fun i g hi => by simpa using hat (i + 1) g (by simpa using hi)) (by simp only [Sh.ws] at hl; omega)
      have := OpensL.cons h1 h2
      rwa [← List.drop_drop, List.take_append_drop] at this
theorem open_elems : ∀ (l : List Sh) (e : TypeId) (k n : Nat) (cs : List Value) (xs : List (DataW H × List MemPlace)), Sh.fitsE P l e = true →
    (∀ (i : Nat), i < l.length → DataW.trod enc P W 0 (fun _ => true) true n e ((cs.drop ((k + i) * P.cellsOf e)).take (P.cellsOf e)) = xs[k + i]?) → k + l.length ≤ xs.length → cs.length = k * P.cellsOf e + Sh.ws l → OpensL P W l (cs.drop (k * P.cellsOf e))
  | [], e, k, n, cs, xs, _, _, _, hl => by
    have : cs.drop (k * P.cellsOf e) = [] := by simp [Sh.ws] at hl ⊢; omega
    rw [this]; exact .nil
  | s :: l, e, k, n, cs, xs, hf, hat, hx, hl => by
    simp only [Sh.fitsE, Bool.and_eq_true] at hf
    have hc := fits_cells hf.1
    have h0 := hat 0 (by simp)
    simp only [Nat.add_zero] at h0
    simp only [List.length_cons] at hx
    obtain ⟨x, hx0⟩ : ∃ x, xs[k]? = some x := ⟨xs[k]'(by omega), List.getElem?_eq_getElem _⟩
    rw [hx0] at h0
    have h1 := open_sh s n e _ x hf.1 h0
    have h2 := open_elems l e (k + 1) n cs xs hf.2 (fun i hi => by
      have := hat (i + 1) (by simpa using hi)
      rw [show k + (i + 1) = k + 1 + i by omega] at this; exact this) (by omega) (by simp only [Sh.ws] at hl; rw [Nat.add_mul, hl, hc]; omega)
    have := OpensL.cons h1 h2
    rwa [Nat.add_mul, Nat.one_mul, ← List.drop_drop, List.take_append_drop] at this
end
end
end Go.Ab
namespace Go.Ab
open Go.ChangeShapes Go.RowKit Go.WideShapes
def Sh.fitsT (P : Program) : List Sh → List TypeId → Bool
  | [], [] => true
  | s :: l, t :: ts => s.fits P t && Sh.fitsT P l ts
  | _, _ => false
section
variable {H : Type} {enc : TypeId × Value → H} {P : Program} {W : World}
def OpensA (P : Program) (W : World) (l : List Sh) (vs : List Value) : Prop :=
  ∃ y : Sh.Ts l, Sh.oks l y ∧ ∃ c : List (Nat × Nat × Nat), c.length = Sh.nes l ∧ ∀ (ρ : Ren) (next : Nat), ρ.base = W → (∀ (i : Nat) (d : Nat × Nat × Nat), c[i]? = some d → ρ (next + i) = some d) →
    VRs ρ (Sh.args l y next) vs ∧ ∀ (i : Nat) (blk : Blk), (Sh.entss l y)[i]? = some (.live blk) → ∃ d : Nat × Nat × Nat, c[i]? = some d ∧ CellsAt ρ W d.1 d.2.1 blk.cells
theorem arg_open {s : Sh} {t : TypeId} {v : Value} {d : DataW H} {ps : List MemPlace} {base : Nat} (hf : s.fits P t = true) (hval : Value.okWide P W .any base t v) (h : DataW.Trod enc P W 0 (fun _ => true) true t v d ps) : Opens P W s v.cells.toList ∧ ∀ (ρ : Ren) (y : s.T) next, VRs ρ (s.cells y next) v.cells.toList → VR ρ (s.arg y next) v := by
  have hf0 := hf
  obtain ⟨fuel, hd⟩ := h
  refine ⟨open_sh s fuel t _ _ hf hd, ?_⟩
  intro ρ y next hv
  have one : ∀ (a : AV), v.cells = #[v] → VRs ρ [a] v.cells.toList → VR ρ a v := fun a h1 h2 => by
    rw [h1] at h2; simpa [VRs] using h2
  cases s with
  | int k =>
    simp only [Sh.fits, Bool.and_eq_true] at hf
    have hf := hf.2
    split at hf
    · rename_i hu
      obtain ⟨n, rfl⟩ := okWide_int hu hval
      exact one _ rfl hv
    · cases hf
  | bool =>
    simp only [Sh.fits, Bool.and_eq_true] at hf
    have hf := hf.2
    split at hf
    · rename_i hu
      obtain ⟨n, rfl⟩ := okWide_bool hu hval
      exact one _ rfl hv
    · cases hf
  | str =>
    simp only [Sh.fits, Bool.and_eq_true] at hf
    have hf := hf.2
    split at hf
    · rename_i hu
      obtain ⟨n, rfl⟩ := okWide_string hu hval
      exact one _ rfl hv
    · cases hf
  | sl e =>
    simp only [Sh.fits, Bool.and_eq_true] at hf
    have hf := hf.2
    split at hf
    · rename_i hu
      obtain ⟨a, len, cap, rfl⟩ := okWide_slice hu hval
      exact one _ rfl hv
    · cases hf
  | rows e =>
    simp only [Sh.fits, Bool.and_eq_true] at hf
    have hf := hf.2
    split at hf
    · rename_i hu
      obtain ⟨a, len, cap, rfl⟩ := okWide_slice hu hval
      exact one _ rfl hv
    · cases hf
  | st l =>
    have : ∃ cs, v = .agg cs := by
      simp only [Sh.fits, Bool.and_eq_true] at hf
      have hf := hf.2
      split at hf
      · rename_i fs hu
        simp only [Value.okWide, hu] at hval
        obtain ⟨cs, h1, _⟩ := hval
        exact ⟨cs, h1⟩
      · rename_i n e hu
        simp only [Value.okWide, hu] at hval
        obtain ⟨cs, h1, _⟩ := hval
        exact ⟨cs, h1⟩
      · cases hf
    obtain ⟨cs, rfl⟩ := this
    simp only [Sh.arg, VR]
    exact ⟨cs, rfl, by simpa [Value.cells, Sh.cells] using hv⟩
theorem args_open {base : Nat} : ∀ (l : List Sh) (ts : List TypeId) (vs : List Value) (ds : List (DataW H)) (ps : List MemPlace), Sh.fitsT P l ts = true → (∀ (j : Nat) t v, ts[j]? = some t → vs[j]? = some v → Value.okWide P W .any base t v) →
    DataW.TrodAll enc P W 0 (fun _ => true) true ts vs ds ps → OpensA P W l vs
  | [], [], vs, ds, ps, _, _, h => by
    obtain ⟨rfl, _, _⟩ := trodAll_nil h
    exact ⟨(), by simp [Sh.oks], [], rfl, fun ρ next _ _ => ⟨by simp [Sh.args, VRs], fun i blk h => by simp [Sh.entss] at h⟩⟩
  | [], _ :: _, vs, ds, ps, hf, _, _ => by simp [Sh.fitsT] at hf
  | _ :: _, [], vs, ds, ps, hf, _, _ => by simp [Sh.fitsT] at hf
  | s :: l, t :: ts, vs, ds, ps, hf, hval, h => by
    obtain ⟨v, vs', d, ds', p, q, rfl, rfl, rfl, h1, h2⟩ := trodAll_cons h
    simp only [Sh.fitsT, Bool.and_eq_true] at hf
    obtain ⟨⟨y, o1, d1, l1, f1⟩, harg⟩ := arg_open hf.1 (hval 0 t v rfl rfl) h1
    obtain ⟨z, o2, d2, l2, f2⟩ := args_open l ts vs' ds' q hf.2 (fun j t v ht hv => hval (j + 1) t v (by simpa using ht) (by simpa using hv)) h2
    refine ⟨(y, z), by simp only [Sh.oks]; exact ⟨o1, o2⟩, d1 ++ d2, by simp [Sh.nes, l1, l2], fun ρ next hb hρ => ?_⟩
    obtain ⟨a1, a2⟩ := f1 ρ next hb fun i d hi => hρ i d (by rw [List.getElem?_append_left]; exact hi; exact (List.getElem?_eq_some_iff.1 hi).1)
    obtain ⟨b1, b2⟩ := f2 ρ (next + s.ne) hb fun i d hi => by
      have := hρ (s.ne + i) d (by rw [List.getElem?_append_right (by omega), l1, Nat.add_sub_cancel_left]; exact hi)
      rw [Nat.add_assoc]; exact this
    refine ⟨by simp only [Sh.args, VRs]; exact ⟨harg ρ y next a1, b1⟩, fun i blk hi => ?_⟩
    simp only [Sh.entss] at hi
    have el := ents_length s y
    by_cases hil : i < s.ne
    · rw [List.getElem?_append_left (by omega)] at hi
      obtain ⟨d, h3, h4⟩ := a2 i blk hi
      exact ⟨d, by rw [List.getElem?_append_left (by omega)]; exact h3, h4⟩
    · rw [List.getElem?_append_right (by omega), el] at hi
      obtain ⟨d, h3, h4⟩ := b2 (i - s.ne) blk hi
      exact ⟨d, by rw [List.getElem?_append_right (by omega), l1]; exact h3, h4⟩
theorem inside_of {ρ : Ren} {b o : Nat} {cs : Cells} (h : CellsAt ρ W b o cs) (hl : 0 < cs.len) : b < W.heap.size := by
  have key : ∀ off cv, W.cell? ⟨b, off, none⟩ = some cv → b < W.heap.size := fun off cv h => by
    rcases Nat.lt_or_ge b W.heap.size with h' | h'
    · exact h'
    · simp [World.cell?, Array.getElem?_eq_none h'] at h
  cases cs with
  | lit l => obtain ⟨cv, h1, _⟩ := h 0 l[0] (List.getElem?_eq_getElem hl); exact key _ cv h1
  | sym l => exact key _ _ (h 0 l[0] (List.getElem?_eq_getElem hl))
  | rows l => obtain ⟨cv, h1, _⟩ := h 0 l[0] (List.getElem?_eq_getElem hl); exact key _ cv h1
  | arr s l => exact key _ _ (h 0 (s.flatl l)[0] (List.getElem?_eq_getElem hl))
  | arrs s l => obtain ⟨cv, h1, _⟩ := h 0 l[0] (List.getElem?_eq_getElem hl); exact key _ cv h1
theorem sim_open {l : List Sh} {vs : List Value} (h : OpensA P W l vs) : ∃ y : Sh.Ts l, Sh.oks l y ∧ ∃ ρ : Ren, VRs ρ (Sh.args l y 0) vs ∧ Sim ρ (Sh.entss l y) W := by
  obtain ⟨y, hy, c, hc, hf⟩ := h
  have hel := entss_length l y
  obtain ⟨h1, h2⟩ := hf ⟨fun b => c[b]?, W⟩ 0 rfl (fun i d hi => by simpa using hi)
  refine ⟨y, hy, _, h1, ?_⟩
  have live : ∀ b (e : Ent), (Sh.entss l y)[b]? = some e → ∃ blk : Blk, e = .live blk ∧ blk.rw = false ∧ (∀ l, blk.cells ≠ .lit l) := fun b e hb => entss_live l y e (List.mem_of_getElem? hb)
  have at_ : ∀ b blk, Heap.get (Sh.entss l y) b = .live blk → (Sh.entss l y)[b]? = some (.live blk) := fun b blk hb => by
    simp only [Heap.get, List.getD_eq_getElem?_getD] at hb
    cases hq : (Sh.entss l y)[b]? with
    | none => rw [hq] at hb; cases hb
    | some e => rw [hq] at hb; simp at hb; rw [hb]
  have norw : ∀ b blk, Heap.get (Sh.entss l y) b = .live blk → blk.rw = true → False := fun b blk hb hr => by
    obtain ⟨blk', h3, h4, _⟩ := live b _ (at_ b blk hb)
    injection h3 with h3; subst h3; rw [h4] at hr; cases hr
  refine ⟨fun b blk hb => ?_, fun b blk c' hb hc' => ?_, fun b blk c' hb hc' hs => ?_, fun b blk c' hb hc' hr => (norw b blk hb hr).elim, fun b b' blk blk' c' d' hb hb' hne hc' hd' hr => (norw b blk hb hr).elim, fun b hb => ?_, Nat.le_refl _, fun _ _ => rfl, fun b blk c' hb hc' hr => (norw b blk hb hr).elim⟩
  · obtain ⟨d, h3, _⟩ := h2 b blk (at_ b blk hb); exact ⟨d, h3⟩
  · obtain ⟨d, h3, h4⟩ := h2 b blk (at_ b blk hb)
    have : some d = some c' := h3.symm.trans hc'
    injection this with this; subst this; exact h4
  · obtain ⟨d, h3, h4⟩ := h2 b blk (at_ b blk hb)
    have : some d = some c' := h3.symm.trans hc'
    injection this with this; subst this
    refine inside_of h4 ?_
    rcases hs with hs | hs
    · exact hs
    · exact (norw b blk hb hs.1).elim
  · show c[b]? = none
    have hb' : Heap.get (Sh.entss l y) b = .free := hb
    simp only [Heap.get, List.getD_eq_getElem?_getD] at hb'
    cases hq : (Sh.entss l y)[b]? with
    | none =>
      have : (Sh.entss l y).length ≤ b := by simpa using hq
      simp; omega
    | some e =>
      obtain ⟨blk, h3, _⟩ := live b e hq
      rw [hq, h3] at hb'; simp at hb'
theorem trodAll_below (laid : laidOutB P = true) {W' : World} (hb : Below W.heap.size W W') : ∀ (ts : List TypeId) (vs : List Value) (ds : List (DataW H)) (ps : List MemPlace), ts.all (fun t => P.readableRec t && decide (t < P.types.size)) = true →
    DataW.TrodAll enc P W 0 (fun _ => true) true ts vs ds ps → (∀ x ∈ ps, x.block < W.heap.size) → DataW.TrodAll enc P W' 0 (fun b => decide (b < W.heap.size)) true ts vs ds ps
  | [], vs, ds, ps, _, h, _ => by
    obtain ⟨rfl, rfl, rfl⟩ := trodAll_nil h
    exact trodAll_mk0
  | t :: ts, vs, ds, ps, ht, h, hlt => by
    obtain ⟨v, vs', d, ds', p, q, rfl, rfl, rfl, h1, h2⟩ := trodAll_cons h
    simp only [List.all_cons, Bool.and_eq_true, decide_eq_true_eq] at ht
    exact ⟨p, q, Below.trod laid ht.1.1 ht.1.2 h1 hb (fun x hx => hlt x (List.mem_append.2 (.inl hx))), trodAll_below laid hb ts vs' ds' q (by simpa using ht.2) h2 (fun x hx => hlt x (List.mem_append.2 (.inr hx))), rfl⟩
theorem trodAll_lt : ∀ (ts : List TypeId) (vs : List Value) (ds : List (DataW H)) (ps : List MemPlace), DataW.TrodAll enc P W 0 (fun _ => true) true ts vs ds ps → ∀ x ∈ ps, x.block < W.heap.size
  | [], vs, ds, ps, h => by
    obtain ⟨rfl, rfl, rfl⟩ := trodAll_nil h
    simp
  | t :: ts, vs, ds, ps, h => by
    obtain ⟨v, vs', d, ds', p, q, rfl, rfl, rfl, ⟨fuel, h1⟩, h2⟩ := trodAll_cons h
    intro x hx
    rcases List.mem_append.1 hx with hx | hx
    · exact DataW.trod_lt fuel _ _ _ h1 x hx
    · exact trodAll_lt ts vs' ds' q h2 x hx
theorem row_calls (laid : laidOutB P = true) {f : FuncId} {fn : Func} {c : Code} (hfn : P.funcs[f]? = some fn) (hb : fn.body = some c) (hname : (fn.name == "runtime.NumGoroutine") = false) {l : List Sh} {ts : List TypeId} (hf : Sh.fitsT P l ts = true) (hr : ts.all (fun t => P.readableRec t && decide (t < P.types.size)) = true)
    (hd : ∀ y : Sh.Ts l, Sh.oks l y → ∃ h', Does P f (Sh.args l y 0) (Sh.entss l y) (.val (.bool true)) h') {args : Array Value} {ds : List (DataW H)} {ps : List MemPlace} {base : Nat} (hval : ∀ (j : Nat) t v, ts[j]? = some t → args[j]? = some v → Value.okWide P W .any base t v)
    (h : DataW.TrodAll enc P W 0 (fun _ => true) true ts args.toList ds ps) :
    Calls P f args W fun e W' => e = .returned (.bool true) ∧ Below W.heap.size W W' ∧ DataW.TrodAll enc P W' 0 (fun b => decide (b < W.heap.size)) true ts args.toList ds ps := by
  obtain ⟨y, hy, ρ, h1, h2⟩ := sim_open (args_open l ts args.toList ds ps hf (fun j t v ht hv => hval j t v ht (by simpa using hv)) h)
  obtain ⟨h', hdo⟩ := hd y hy
  have hinv := hdo ρ W args h2 h1
  unfold Invokes at hinv
  have hcall : (callFunc f args).run P W = .ok (.enter f args) W := by
    simp only [callFunc, program, Sem.run_bind, Sem.run, Result.andThen, hfn]
    simp only [hname, hb, Option.isNone_some, Bool.false_eq_true, if_false]
    rfl
  rw [hcall] at hinv
  refine hinv.mono fun e W' ⟨ρ', cv, he, hv, hI⟩ => ?_
  simp only [VR] at hv
  subst hv
  have hbel : Below W.heap.size W W' := by
    refine ⟨hI.os, hI.tape, hI.output, hI.size, fun k hk => hI.keep k hk ?_⟩
    rintro ⟨b, blk, c', _, hg, hrw, _⟩
    have hg' : Heap.get (Sh.entss l y) b = .live blk := hg
    simp only [Heap.get, List.getD_eq_getElem?_getD] at hg'
    cases hq : (Sh.entss l y)[b]? with
    | none => rw [hq] at hg'; simp at hg'
    | some e =>
      rw [hq] at hg'; simp at hg'; subst hg'
      obtain ⟨blk', h3, h4, _⟩ := entss_live l y _ (List.mem_of_getElem? hq)
      injection h3 with h3; subst h3; rw [h4] at hrw; cases hrw
  exact ⟨he, hbel, trodAll_below laid hbel ts _ _ _ hr h (trodAll_lt ts _ _ _ h)⟩
end
end Go.Ab
