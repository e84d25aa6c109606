/-
  CORE 5: loads and stores.
-/
import Derived.Test.YtiikkepnpidilaaCore4
set_option linter.unusedVariables false
set_option linter.unusedSimpArgs false
namespace Go.Ab

def isAggD : TypeDesc → Bool
  | .struct _ => true
  | .array _ _ => true
  | _ => false
theorem run_isAgg {P : Program} {t : TypeId} {d : TypeDesc} (h : P.underlying t = some d) (w : World) : (isAgg t).run P w = .ok (isAggD d) w := by
  simp only [isAgg, Sem.run_bind, run_underlying' h, Result.andThen]
  cases d <;> rfl

theorem CellsAt.list {ρ : Ren} {w : World} {cb : Nat} : ∀ (l : List AV) (co : Nat), CellsAt ρ w cb co (.lit l) → ∃ cs : List Value, VRs ρ l cs ∧ ∀ i v, cs[i]? = some v → w.cell? ⟨cb, co + i, none⟩ = some v
  | [], co, _ => ⟨[], by simp [VRs], by simp⟩
  | a :: l, co, h => by
    obtain ⟨v, h1, h2⟩ := h 0 a rfl
    obtain ⟨cs, h3, h4⟩ := CellsAt.list l (co + 1) (fun i x hx => by
      obtain ⟨cv, h5, h6⟩ := h (i + 1) x (by simpa using hx)
      exact ⟨cv, by rw [← h5]; congr 2; omega, h6⟩)
    refine ⟨v :: cs, by simp only [VRs]; exact ⟨h2, h3⟩, fun i u hu => ?_⟩
    cases i with
    | zero => simp at hu; subst hu; exact h1
    | succ i => simp at hu; have := h4 i u hu; rw [← this]; congr 2; omega

theorem add_lit (b o n : Nat) : Addr.add ⟨b, o, none⟩ n = ⟨b, o + n, none⟩ := by
  unfold Addr.add; split
  · subst_vars; rfl
  · rfl

def partA (P : Program) (t : TypeId) (cs : List AV) (off : Nat) : Option AV :=
  (P.underlying t).bind fun d => if isAggD d = true then (P.info? t).bind fun i => if off + i.size ≤ cs.length then some (.agg ((cs.drop off).take i.size)) else none else cs[off]?

theorem extract_list (cs : Array Value) (a n : Nat) : (cs.extract a (a + n)).toList = (cs.toList.drop a).take n := by
  rw [Array.toList_extract, List.extract_eq_take_drop]
  congr 1
  omega

theorem partA_ok {P : Program} {ρ : Ren} {t : TypeId} {cs : List AV} {off : Nat} {a : AV} (h : partA P t cs off = some a) {us : Array Value} (hv : VRs ρ cs us.toList) (w : World) :
    ∃ v, (part t us off).run P w = .ok v w ∧ VR ρ a v := by
  simp only [partA, Option.bind_eq_some_iff] at h
  obtain ⟨d, hd, h⟩ := h
  split at h
  · rename_i hag
    simp only [Option.bind_eq_some_iff] at h
    obtain ⟨i, hi, h⟩ := h
    split at h
    · injection h with h; subst h
      refine ⟨.agg (us.extract off (off + i.size)), ?_, ?_⟩
      · simp only [part, Sem.run_bind, run_isAgg hd, Result.andThen, hag, if_true, run_size hi]; rfl
      · simp only [VR]; exact ⟨_, rfl, by rw [extract_list]; exact (hv.drop _).take _⟩
    · cases h
  · rename_i hag
    obtain ⟨v, h1, h2⟩ := hv.get off a h
    refine ⟨v, ?_, h2⟩
    have hag' : isAggD d = false := by simpa using hag
    simp only [part, Sem.run_bind, run_isAgg hd, Result.andThen, hag', Bool.false_eq_true, if_false]
    rw [show us[off]? = some v by simpa using h1]; rfl

/-- What is loaded; where the cells are symbolic the values are told ('vs'), and owed. -/
def coreLoad (P : Program) (t : TypeId) (b o : Nat) (e : Ent) (vs : Option (List Value × Pf)) (new : Nat) : Option Eff :=
  match e with
  | .live blk =>
    match blk.cells with
    | .lit l => (partA P t l o).map fun a => { rb := [b], val := a }
    | .sym l => vs.bind fun vs => (P.underlying t).bind fun d =>
        if isAggD d = true then (P.info? t).bind fun i => if vs.1.length = i.size then some { rb := [b], val := .agg (vs.1.map .val), ob := [.prop ((l.drop o).take vs.1.length = vs.1) vs.2.p] } else none
        else match vs.1 with
          | [v] => some { rb := [b], val := .val v, ob := [.prop (l[o]? = some v) vs.2.p] }
          | _ => none
    | .rows l => vs.bind fun vs => (P.underlying t).bind fun d =>
        if isAggD d = true then none else some { rb := [b], wb := [(new, .live { cells := .sym vs.1, rw := false })], nw := 1, val := .slc new 0 vs.1.length .low, ob := [.prop (l[o]? = some vs.1) vs.2.p] }
    | _ => none
  | _ => none

theorem loadVar_lit {P : Program} {ρ : Ren} {w : World} {t : TypeId} {cb co o : Nat} {l : List AV} {a : AV} (hp : partA P t l o = some a) (hc : CellsAt ρ w cb co (.lit l)) :
    ∃ v, (loadVar t ⟨cb, co + o, none⟩).run P w = .ok v w ∧ VR ρ a v := by
  obtain ⟨cs, h1, h2⟩ := CellsAt.list l co hc
  simp only [partA, Option.bind_eq_some_iff] at hp
  obtain ⟨d, hd, hp⟩ := hp
  split at hp
  · rename_i hag
    simp only [Option.bind_eq_some_iff] at hp
    obtain ⟨i, hi, hp⟩ := hp
    split at hp
    · rename_i hle
      injection hp with hp; subst hp
      have hlen : ((cs.drop o).take i.size).length = i.size := by
        have := h1.length; simp; omega
      have hrun := run_loadCells_list (P := P) w ⟨cb, co + o, none⟩ ((cs.drop o).take i.size) (fun j v hj => by
        rw [add_lit]
        have hji : j < i.size := by
          rcases Nat.lt_or_ge j i.size with h' | h'
          · exact h'
          · rw [List.getElem?_eq_none (by rw [hlen]; exact h')] at hj; cases hj
        rw [List.getElem?_take, if_pos hji, List.getElem?_drop] at hj
        rw [Nat.add_assoc]; exact h2 _ v hj)
      rw [hlen] at hrun
      refine ⟨.agg ((cs.drop o).take i.size).toArray, ?_, ?_⟩
      · simp only [loadVar, Sem.run_bind, run_isAgg hd, Result.andThen, hag, if_true, run_size hi, hrun]; rfl
      · simp only [VR]; exact ⟨_, rfl, by simpa using (h1.drop _).take _⟩
    · cases hp
  · rename_i hag
    obtain ⟨v, h3, h4⟩ := h1.get o a hp
    refine ⟨v, ?_, h4⟩
    have hag' : isAggD d = false := by simpa using hag
    simp only [loadVar, Sem.run_bind, run_isAgg hd, Result.andThen, hag', Bool.false_eq_true, if_false, run_load, h2 o v h3]

theorem loadVar_sym {P : Program} {ρ : Ren} {w : World} {t : TypeId} {cb co o : Nat} {l : List Value} (hc : CellsAt ρ w cb co (.sym l)) {d : TypeDesc} (hd : P.underlying t = some d) :
    (∀ vs i, isAggD d = true → P.info? t = some i → vs.length = i.size → (l.drop o).take vs.length = vs → (loadVar t ⟨cb, co + o, none⟩).run P w = .ok (.agg vs.toArray) w) ∧
    (∀ v, isAggD d = false → l[o]? = some v → (loadVar t ⟨cb, co + o, none⟩).run P w = .ok v w) := by
  constructor
  · intro vs i hag hi hlen hvs
    have hrun := run_loadCells_list (P := P) w ⟨cb, co + o, none⟩ vs (fun j v hj => by
      rw [add_lit]
      have hjl : j < vs.length := by
        rcases Nat.lt_or_ge j vs.length with h' | h'
        · exact h'
        · rw [List.getElem?_eq_none h'] at hj; cases hj
      rw [← hvs, List.getElem?_take, if_pos hjl, List.getElem?_drop] at hj
      rw [Nat.add_assoc]; exact hc _ v hj)
    rw [hlen] at hrun
    simp only [loadVar, Sem.run_bind, run_isAgg hd, Result.andThen, hag, if_true, run_size hi, hrun]; rfl
  · intro v hag hv
    simp only [loadVar, Sem.run_bind, run_isAgg hd, Result.andThen, hag, Bool.false_eq_true, if_false, run_load, hc o v hv]

theorem coreLoad_ok {P : Program} {Γ : Ctx} {ρ : Ren} {h : Heap} {w : World} (hI : Inv Γ ρ h w) {t : TypeId} {b o : Nat} {v : Value} (hv : VR ρ (.ptr b o) v) {vs : Option (List Value × Pf)} {new : Nat} {e : Eff} (hc : coreLoad P t b o (h.get b) vs new = some e) (hob : ∀ p ∈ e.ob, p.holds) (hn : Γ.n0 ≤ new) (hfree : ∀ x, new ≤ x → x < new + e.nw → h.get x = .free) :
    OpOK P Γ ρ h w (do pure (.value (← Instr.loadAt t v))) e := by
  simp only [VR] at hv
  obtain ⟨cb, co, cc, hρ, rfl⟩ := hv
  have hsure : ∀ r, (loadVar t ⟨cb, co + o, none⟩).run P w = .ok r w → (Instr.loadAt t (.pointer (some ⟨cb, co + o, none⟩))).run P w = .ok r w := fun r hr => by
    simp only [Instr.loadAt, Sem.run_bind, Instr.sureAddr, Result.andThen]
    show (loadVar t ⟨cb, co + o, none⟩).run P w = .ok r w
    exact hr
  unfold coreLoad at hc
  split at hc
  · rename_i blk hblk
    have hcells := hI.sim.cells b blk _ hblk hρ
    split at hc
    · rename_i l hl
      simp only [Option.map_eq_some_iff] at hc
      obtain ⟨a, ha, rfl⟩ := hc
      rw [hl] at hcells
      obtain ⟨r, h1, h2⟩ := loadVar_lit ha hcells
      exact .pure hI r (run_v (hsure _ h1)) h2 rfl
    · rename_i l hl
      rw [hl] at hcells
      simp only [Option.bind_eq_some_iff] at hc
      obtain ⟨vs, hvs, d, hd, hc⟩ := hc
      have hboth := loadVar_sym (o := o) hcells hd
      split at hc
      · rename_i hag
        simp only [Option.bind_eq_some_iff] at hc
        obtain ⟨i, hi, hc⟩ := hc
        split at hc
        · rename_i hlen
          injection hc with hc; subst hc
          have hobl := hob _ (List.mem_singleton.2 rfl)
          exact .pure hI _ (run_v (hsure _ (hboth.1 vs.1 i hag hi hlen (cast (Eq.symm hobl) vs.2.h)))) (by simp only [VR]; exact ⟨_, rfl, VRs.vals _⟩) rfl
        · cases hc
      · rename_i hag
        split at hc
        · rename_i u hu
          injection hc with hc; subst hc
          have hobl := hob _ (List.mem_singleton.2 rfl)
          exact .pure hI _ (run_v (hsure _ (hboth.2 u (by simpa using hag) (cast (Eq.symm hobl) vs.2.h)))) (by simp [VR]) rfl
        · cases hc
    · rename_i l hl
      rw [hl] at hcells
      simp only [Option.bind_eq_some_iff] at hc
      obtain ⟨vs, hvs, d, hd, hc⟩ := hc
      split at hc
      · cases hc
      · rename_i hag
        injection hc with hc; subst hc
        have hobl : l[o]? = some vs.1 := cast (Eq.symm (hob _ (List.mem_singleton.2 rfl))) vs.2.h
        obtain ⟨cv, h1, h2⟩ := hcells o vs.1 hobl
        have hag' : isAggD d = false := by simpa using hag
        have hrun : (loadVar t ⟨cb, co + o, none⟩).run P w = .ok cv w := by
          simp only at h1
          simp only [loadVar, Sem.run_bind, run_isAgg hd, Result.andThen, hag', Bool.false_eq_true, if_false, run_load, h1]
        have hfr := hfree new (Nat.le_refl _) (by simp)
        rcases h2 with ⟨h3, a, h4⟩ | ⟨b', o', c', h3, h4, h5⟩
        · obtain ⟨k1, k2⟩ := hI.addRo hn hfr vs.1 0 0 (by rw [h3]; simp)
          refine ⟨_, _, cv, w, run_v (hsure _ hrun), .inl rfl, k1, ?_, k2⟩
          simp only [VR]; exact .inr ⟨by rw [h3]; rfl, a, h4⟩
        · obtain ⟨k1, k2⟩ := hI.addRo hn hfr vs.1 b' o' h5
          refine ⟨_, _, cv, w, run_v (hsure _ hrun), .inl rfl, k1, ?_, k2⟩
          simp only [VR]; exact .inl ⟨b', o', 0, c', by simp [Ren.put], h4, by rw [h3]; rfl⟩
    · cases hc
  · cases hc

/-! ### store -/
def coreStore (P : Program) (t : TypeId) (b o : Nat) (e : Ent) (a : AV) (pf : Option Pf) : Option Eff :=
  match e with
  | .live blk =>
    if blk.rw = true then
      (a.asCells).bind fun vs => (P.info? t).bind fun i =>
        if vs.length = i.size ∧ vs.all AV.one = true ∧ 0 < vs.length then
          match blk.cells with
          | .lit l => if o + vs.length ≤ l.length then some { rb := [b], wb := [(b, .live { blk with cells := .lit (setRange l o vs) })], val := .val undef } else none
          | .sym l => pf.bind fun pf => (AV.plains? vs).map fun us => { rb := [b], wb := [(b, .live { blk with cells := .sym (l.take o ++ us ++ l.drop (o + us.length)) })], val := .val undef, ob := [.prop (o + us.length ≤ l.length) pf.p] }
          | _ => none
        else none
    else none
  | _ => none

theorem setRow_set (w : World) (g : Nat) (old cs : Array Value) (e : TypeId) (hg : w.heap[g]? = some (.cells old e (0, 0))) : (w.setRow g cs).heap = w.heap.setIfInBounds g (.cells cs e (0, 0)) := by
  apply Array.ext_getElem?
  intro i
  by_cases hi : g = i
  · subst hi
    rw [setRow_heap w g old cs e (0, 0) hg, Array.getElem?_setIfInBounds_self_of_lt]
    exact (Array.getElem?_eq_some_iff.1 hg).1
  · rw [Array.getElem?_setIfInBounds_ne hi]
    simp [World.setRow, Array.getElem?_modify, hi]

theorem take_set_list {α : Type} (cs : List α) (L o : Nat) (us : List α) (h1 : o + us.length ≤ L) (h2 : L ≤ cs.length) :
    (cs.take o ++ us ++ cs.drop (o + us.length)).take L = (cs.take L).take o ++ us ++ (cs.take L).drop (o + us.length) := by
  apply List.ext_getElem?
  intro i
  simp only [List.getElem?_take, List.getElem?_append, List.length_append, List.length_take, List.getElem?_drop]
  have e1 : min o cs.length = o := by omega
  have e2 : min o (min L cs.length) = o := by omega
  rw [e1, e2]
  by_cases a1 : i < L
  · rw [if_pos a1]
    by_cases a2 : i < o + us.length
    · rw [if_pos a2, if_pos a2]
      by_cases a3 : i < o
      · simp [a3, a1]
      · simp [a3]
    · rw [if_neg a2, if_neg a2]
      have : o + us.length + (i - (o + us.length)) < L := by omega
      rw [if_pos this]
  · rw [if_neg a1]
    have a2 : ¬ i < o + us.length := by omega
    rw [if_neg a2]
    have : ¬ o + us.length + (i - (o + us.length)) < L := by omega
    rw [if_neg this]

theorem VRs_one {ρ : Ren} : ∀ {as : List AV} {vs : List Value}, VRs ρ as vs → as.all AV.one = true → ∀ v ∈ vs, v.oneCell' = true
  | [], [], _, _ => by simp
  | a :: as, v :: vs, h, h1 => by
    simp only [VRs] at h
    simp only [List.all_cons, Bool.and_eq_true] at h1
    intro u hu
    rcases List.mem_cons.1 hu with rfl | hu
    · exact one_cell h.1 h1.1
    · exact VRs_one h.2 h1.2 u hu
  | [], _ :: _, h, _ => by simp [VRs] at h
  | _ :: _, [], h, _ => by simp [VRs] at h

theorem cell_setRow (w : World) (g : Nat) (old cs : Array Value) (e : TypeId) (hg : w.heap[g]? = some (.cells old e (0, 0))) (i : Nat) : (w.setRow g cs).cell? ⟨g, i, none⟩ = cs[i]? := by
  simp [World.cell?, setRow_heap w g old cs e (0, 0) hg]

theorem lit_of_take {ρ : Ren} {w : World} {g : Nat} {cs : Array Value} (hc : ∀ i, w.cell? ⟨g, i, none⟩ = cs[i]?) {l : List AV} (h : VRs ρ l (cs.toList.take l.length)) : CellsAt ρ w g 0 (.lit l) := by
  intro i v hi
  obtain ⟨cv, h1, h2⟩ := h.get i v hi
  refine ⟨cv, ?_, h2⟩
  rw [Nat.zero_add, hc]
  rw [List.getElem?_take] at h1
  split at h1
  · simpa using h1
  · cases h1
theorem take_of_lit {ρ : Ren} {w : World} {g : Nat} {cs : Array Value} (hc : ∀ i, w.cell? ⟨g, i, none⟩ = cs[i]?) {l : List AV} (hlen : l.length ≤ cs.size) (h : CellsAt ρ w g 0 (.lit l)) : VRs ρ l (cs.toList.take l.length) := by
  refine VRs.of_get (by simp; omega) fun i a ha => ?_
  obtain ⟨cv, h1, h2⟩ := h i a ha
  refine ⟨cv, ?_, h2⟩
  rw [Nat.zero_add, hc] at h1
  have : i < l.length := by
    rcases Nat.lt_or_ge i l.length with h' | h'
    · exact h'
    · simp [List.getElem?_eq_none h'] at ha
  rw [List.getElem?_take, if_pos this]; simpa using h1

theorem coreStore_ok {P : Program} {Γ : Ctx} {ρ : Ren} {h : Heap} {w : World} (hI : Inv Γ ρ h w) {t : TypeId} {b o : Nat} {v : Value} (hv : VR ρ (.ptr b o) v) {a : AV} {x : Value} (hx : VR ρ a x) {pf : Option Pf} {e : Eff} (hc : coreStore P t b o (h.get b) a pf = some e) (hob : ∀ p ∈ e.ob, p.holds) :
    OpOK P Γ ρ h w (do Instr.storeAt t v x; pure .skip) e := by
  simp only [VR] at hv
  obtain ⟨cb, co, cc, hρ, rfl⟩ := hv
  unfold coreStore at hc
  split at hc
  · rename_i blk hblk
    split at hc
    · rename_i hrw
      simp only [Option.bind_eq_some_iff] at hc
      obtain ⟨vs, hvs, i, hi, hc⟩ := hc
      split at hc
      · rename_i hcond
        have hsol : blk.solid (cb, co, cc) := by
          refine .inl ?_
          split at hc
          · rename_i l hl
            split at hc
            · rename_i hfit; simp [hl, Cells.len]; omega
            · cases hc
          · rename_i l hl
            simp only [Option.bind_eq_some_iff, Option.map_eq_some_iff] at hc
            obtain ⟨pf, _, us, hus, rfl⟩ := hc
            have hfit : o + us.length ≤ l.length := cast (Eq.symm (hob _ (List.mem_singleton.2 rfl))) pf.h
            have := plains_eq vs hus (cells_of hvs hx)
            have h9 := (cells_of hvs hx).length
            rw [this] at h9
            simp [hl, Cells.len]; omega
          · cases hc
        obtain ⟨h0, cs, el, hcs, hlen, hgr⟩ := hI.sim.own b blk _ hblk hρ hrw hsol
        simp at h0; subst h0
        simp only at hcs
        have hrel := cells_of hvs hx
        have hvl := hrel.length
        have hone := VRs_one hrel hcond.2.1
        have hcell : ∀ i, w.cell? ⟨cb, i, none⟩ = cs[i]? := fun i => by simp [World.cell?, hcs]
        have key : ∀ (cells : Cells), o + vs.length ≤ cs.size → CellsAt ρ (w.setRow cb (cs.toList.take o ++ x.cells.toList ++ cs.toList.drop (o + x.cells.toList.length)).toArray) cb 0 cells → cells.len ≤ cs.size →
            OpOK P Γ ρ h w (do Instr.storeAt t (.pointer (some ⟨cb, 0 + o, none⟩)) x; pure .skip) { rb := [b], wb := [(b, .live { blk with cells })], val := .val undef } := by
          intro cells hfit hca hl
          have hst := run_storeCells_at P cb o el x.cells.toList 0 cs w hcs (by simp; simp at hvl; omega) hone
          simp only [Nat.add_zero] at hst
          refine ⟨ρ, _, undef, _, run_u (w' := w.setRow cb (cs.toList.take o ++ x.cells.toList ++ cs.toList.drop (o + x.cells.toList.length)).toArray) ?_, .inr ⟨rfl, rfl⟩, ρ.le_refl, by simp [VR], ?_⟩
          · simp only [Instr.storeAt, Sem.run_bind, Instr.sureAddr, Result.andThen]
            show (storeVar t ⟨cb, 0 + o, none⟩ x).run P w = _
            have hsz : x.cells.size = i.size := by rw [← hcond.1, hvl]; simp
            simp only [storeVar, Sem.run_bind, run_size hi, Result.andThen, hsz, ne_eq, not_true_eq_false, if_false, Nat.zero_add]
            exact hst
          · exact hI.write hblk hrw hρ hsol cs el hcs _ (by simp; simp at hvl; omega) cells (setRow_set w cb cs _ el hcs) rfl rfl rfl hca hl
        split at hc
        · rename_i l hl
          split at hc
          · rename_i hfit
            injection hc with hc; subst hc
            have hlc : l.length ≤ cs.size := by simpa [hl, Cells.len] using hlen
            refine key (.lit (setRange l o vs)) (by omega) ?_ (by simp [Cells.len, setRange]; omega)
            have hca := hI.sim.cells b blk _ hblk hρ
            simp only [hl] at hca
            have hold := take_of_lit hcell hlc hca
            have hL : (setRange l o vs).length = l.length := by simp [setRange]; omega
            refine lit_of_take (cs := (cs.toList.take o ++ x.cells.toList ++ cs.toList.drop (o + x.cells.toList.length)).toArray) (fun i => cell_setRow w cb cs _ el hcs i) ?_
            rw [hL]
            rw [List.toList_toArray, take_set_list _ _ _ _ (by omega) (by simpa using hlc)]
            exact hold.setRange hrel
          · cases hc
        · rename_i l hl
          simp only [Option.bind_eq_some_iff, Option.map_eq_some_iff] at hc
          obtain ⟨pf, _, us, hus, rfl⟩ := hc
          have hfit : o + us.length ≤ l.length := cast (Eq.symm (hob _ (List.mem_singleton.2 rfl))) pf.h
          have hux := plains_eq vs hus hrel
          have hlc : l.length ≤ cs.size := by simpa [hl, Cells.len] using hlen
          subst hux
          obtain ⟨r1, r2, r3, r4, k1, k2, k3, k4, k5⟩ := key (.sym (l.take o ++ x.cells.toList ++ l.drop (o + x.cells.toList.length))) (by omega) (by
            intro j v hj
            rw [Nat.zero_add, cell_setRow w cb cs _ el hcs j]
            have hca := hI.sim.cells b blk _ hblk hρ
            simp only [hl] at hca
            have hcl : ∀ k u, l[k]? = some u → cs[k]? = some u := fun k u hk => by rw [← hcell]; have := hca k u hk; rwa [Nat.zero_add] at this
            simp only [List.getElem?_toArray]
            have e1 : min o l.length = o := by omega
            have e2 : min o cs.toList.length = o := by simp; omega
            simp only [List.getElem?_append, List.length_append, List.length_take, List.getElem?_take, List.getElem?_drop, e1, e2] at hj ⊢
            split at hj
            · rename_i a1
              rw [if_pos a1]
              split at hj
              · rename_i a2
                rw [if_pos a2, if_pos a2]
                simpa using hcl j v hj
              · rename_i a2
                rw [if_neg a2]; exact hj
            · rename_i a1
              rw [if_neg a1]
              simpa using hcl _ v hj) (by have := hfit; simp [Cells.len] at this ⊢; omega)
          exact ⟨r1, r2, r3, r4, k1, k2, k3, k4, k5⟩
        · cases hc
      · cases hc
    · cases hc
  · cases hc

end Go.Ab
