/-
  CORE 2: how a world's change carries over to the relation (new block, store, draw).
-/
import Derived.Test.YtiikkepnpidilaaCore1
set_option linter.unusedVariables false
set_option linter.unusedSimpArgs false
namespace Go.Ab

def Heap.upd (h : Heap) (b : Nat) (e : Ent) : Heap :=
  if b < h.length then h.set b e else h ++ List.replicate (b - h.length) .free ++ [e]

theorem Heap.get_upd (h : Heap) (b : Nat) (e : Ent) (x : Nat) : (h.upd b e).get x = if x = b then e else h.get x := by
  unfold Heap.upd Heap.get
  split
  · rename_i hb
    simp only [List.getD_eq_getElem?_getD, List.getElem?_set]
    by_cases hx : b = x
    · subst hx; simp [hb]
    · rw [if_neg hx, if_neg (fun e => hx e.symm)]
  · rename_i hb
    simp only [List.getD_eq_getElem?_getD]
    by_cases hx : x = b
    · subst hx
      rw [if_pos rfl, List.append_assoc, List.getElem?_append_right (by omega), List.getElem?_append_right (by simp)]
      simp
    · rw [if_neg hx]
      by_cases h1 : x < h.length
      · rw [List.append_assoc, List.getElem?_append_left h1]
      · by_cases h2 : x < b
        · rw [List.append_assoc, List.getElem?_append_right (by omega), List.getElem?_append_left (by simp; omega), List.getElem?_replicate, if_pos (by omega), List.getElem?_eq_none (by omega)]
          rfl
        · rw [List.getElem?_eq_none (by simp; omega), List.getElem?_eq_none (by omega)]

def Heap.upds (h : Heap) : List (Nat × Ent) → Heap
  | [] => h
  | (b, e) :: l => (h.upd b e).upds l

theorem Sim.congr {ρ : Ren} {h h' : Heap} {w : World} (hs : Sim ρ h w) (he : ∀ b, h'.get b = h.get b) : Sim ρ h' w :=
  ⟨fun b blk hb => hs.some_ b blk (he b ▸ hb), fun b blk c hb => hs.cells b blk c (he b ▸ hb), fun b blk c hb => hs.inside b blk c (he b ▸ hb),
   fun b blk c hb => hs.own b blk c (he b ▸ hb), fun b b' blk blk' c c' hb hb' => hs.apart b b' blk blk' c c' (he b ▸ hb) (he b' ▸ hb'), fun b hb => hs.dom b (he b ▸ hb), hs.baseLe, hs.old, fun b blk c hb => hs.above b blk c (he b ▸ hb)⟩
theorem Inv.congr {Γ : Ctx} {ρ : Ren} {h h' : Heap} {w : World} (hI : Inv Γ ρ h w) (he : ∀ b, h'.get b = h.get b) : Inv Γ ρ h' w :=
  ⟨hI.sim.congr he, hI.agree, hI.sameBase, hI.os, hI.tape, hI.output, hI.size, hI.keep, fun b blk c hb => hI.fresh b blk c (he b ▸ hb)⟩

/-! ### The world's parts that count -/
theorem CellsAt.of_cell {ρ : Ren} {w w' : World} {cb co : Nat} {cs : Cells} (h : CellsAt ρ w cb co cs) (hc : 0 < cs.len → ∀ o, w'.cell? ⟨cb, o, none⟩ = w.cell? ⟨cb, o, none⟩) : CellsAt ρ w' cb co cs := by
  cases cs with
  | lit l =>
    intro i v hi
    have hl : 0 < l.length := by
      rcases Nat.lt_or_ge i l.length with h' | h'
      · omega
      · simp [List.getElem?_eq_none h'] at hi
    obtain ⟨cv, h1, h2⟩ := h i v hi
    exact ⟨cv, by rw [hc hl]; exact h1, h2⟩
  | sym l =>
    intro i v hi
    have hl : 0 < l.length := by
      rcases Nat.lt_or_ge i l.length with h' | h'
      · omega
      · simp [List.getElem?_eq_none h'] at hi
    rw [hc hl]; exact h i v hi
  | rows l =>
    intro i v hi
    have hl : 0 < l.length := by
      rcases Nat.lt_or_ge i l.length with h' | h'
      · omega
      · simp [List.getElem?_eq_none h'] at hi
    obtain ⟨cv, h1, h2⟩ := h i v hi
    exact ⟨cv, by rw [hc hl]; exact h1, h2⟩
  | arr s l =>
    intro i v hi
    have hl : 0 < (s.flatl l).length := by
      rcases Nat.lt_or_ge i (s.flatl l).length with h' | h'
      · omega
      · simp [List.getElem?_eq_none h'] at hi
    rw [hc hl]; exact h i v hi
  | arrs s l =>
    intro i v hi
    have hl : 0 < l.length := by
      rcases Nat.lt_or_ge i l.length with h' | h'
      · omega
      · simp [List.getElem?_eq_none h'] at hi
    obtain ⟨cv, h1, h2⟩ := h i v hi
    exact ⟨cv, by rw [hc hl]; exact h1, h2⟩
theorem CellsAt.mono {ρ ρ' : Ren} {w : World} {cb co : Nat} {cs : Cells} (hle : ρ.le ρ') (h : CellsAt ρ w cb co cs) : CellsAt ρ' w cb co cs := by
  cases cs with
  | lit l => intro i v hi; obtain ⟨cv, h1, h2⟩ := h i v hi; exact ⟨cv, h1, VR.mono hle _ _ h2⟩
  | sym l => exact h
  | rows l => intro i v hi; obtain ⟨cv, h1, h2⟩ := h i v hi; exact ⟨cv, h1, by rw [hle.base]; exact h2⟩
  | arr s l => exact h
  | arrs s l => intro i v hi; obtain ⟨cv, h1, h2⟩ := h i v hi; exact ⟨cv, h1, by rw [hle.base]; exact h2⟩

theorem cell_of_heap {w w' : World} {cb : Nat} (h : w'.heap[cb]? = w.heap[cb]?) (o : Nat) : w'.cell? ⟨cb, o, none⟩ = w.cell? ⟨cb, o, none⟩ := by
  simp [World.cell?, h]

def Ren.put (ρ : Ren) (b : Nat) (c : Nat × Nat × Nat) : Ren := ⟨fun x => if x = b then some c else ρ x, ρ.base⟩
theorem Ren.le_put {ρ : Ren} {b : Nat} {c} (h : ρ b = none) : ρ.le (ρ.put b c) := by
  refine ⟨fun x y hx => ?_, rfl⟩
  unfold Ren.put
  simp only
  split
  · rename_i e; subst e; rw [h] at hx; cases hx
  · exact hx

/-- The world draws an answer, or nothing of the heap turns. -/
theorem Sim.of_heap {ρ : Ren} {h : Heap} {w w' : World} (hs : Sim ρ h w) (hh : w'.heap = w.heap) : Sim ρ h w' := by
  have hc : ∀ cb o, w'.cell? ⟨cb, o, none⟩ = w.cell? ⟨cb, o, none⟩ := fun cb o => by simp [World.cell?, hh]
  refine ⟨hs.some_, fun b blk c hb hρ => (hs.cells b blk c hb hρ).of_cell fun _ o => hc _ o, fun b blk c hb hρ hso => by rw [hh]; exact hs.inside b blk c hb hρ hso, fun b blk c hb hρ hrw hso => ?_, hs.apart, hs.dom, by rw [hh]; exact hs.baseLe, fun i hi => by rw [hh]; exact hs.old i hi, hs.above⟩
  obtain ⟨h1, cs, e, h2, h3⟩ := hs.own b blk c hb hρ hrw hso
  exact ⟨h1, cs, e, by rw [hh]; exact h2, h3⟩
theorem Inv.of_heap {Γ : Ctx} {ρ : Ren} {h : Heap} {w w' : World} (hI : Inv Γ ρ h w) (hh : w'.heap = w.heap) (ho : w'.os = w.os) (ht : w'.tape = w.tape) (hu : w'.output = w.output) : Inv Γ ρ h w' :=
  ⟨hI.sim.of_heap hh, hI.agree, hI.sameBase, ho.trans hI.os, ht.trans hI.tape, hu.trans hI.output, by rw [hh]; exact hI.size, fun i hi hn => by rw [hh]; exact hI.keep i hi hn, hI.fresh⟩

theorem solid_of_rw {blk blk' : Blk} {c : Nat × Nat × Nat} (h : blk.solid c) (hr : blk.rw = true) (h' : blk.cells.len ≤ blk'.cells.len) (hr' : blk'.rw = true) : blk'.solid c := by
  rcases h with h | h
  · exact .inl (by omega)
  · exact .inr ⟨hr', h.2⟩

/-- A new block. -/
theorem Inv.alloc {Γ : Ctx} {ρ : Ren} {h : Heap} {w w' : World} (hI : Inv Γ ρ h w) {new : Nat} (hn : Γ.n0 ≤ new) (hfree : h.get new = .free) (cs : Array Value) (e : TypeId) (cells : Cells) (grow : Option Nat) (cc : Nat)
    (hh : w'.heap = w.heap.push (.cells cs e (0, 0))) (ho : w'.os = w.os) (ht : w'.tape = w.tape) (hu : w'.output = w.output)
    (hcells : CellsAt ρ w' w.heap.size 0 cells) (hlen : cells.len ≤ cs.size) (hgrow : ∀ sz, grow = some sz → cs.size = cc * sz) :
    ρ.le (ρ.put new (w.heap.size, 0, cc)) ∧ Inv Γ (ρ.put new (w.heap.size, 0, cc)) (h.upd new (.live { cells, rw := true, grow })) w' := by
  have hnone := hI.sim.dom new hfree
  have hle := Ren.le_put (c := (w.heap.size, 0, cc)) hnone
  have hold : ∀ cb, cb < w.heap.size → w'.heap[cb]? = w.heap[cb]? := fun cb hcb => by rw [hh, Array.getElem?_push, if_neg (by omega)]
  have hnewb : w'.heap[w.heap.size]? = some (.cells cs e (0, 0)) := by rw [hh]; simp
  have hpn : (ρ.put new (w.heap.size, 0, cc)) new = some (w.heap.size, 0, cc) := by simp [Ren.put]
  have hpo : ∀ b, b ≠ new → (ρ.put new (w.heap.size, 0, cc)) b = ρ b := fun b hb => by simp [Ren.put, hb]
  have hgo : ∀ b, b ≠ new → (h.upd new (.live { cells, rw := true, grow })).get b = h.get b := fun b hb => by rw [Heap.get_upd, if_neg hb]
  have hgn : (h.upd new (.live { cells, rw := true, grow })).get new = .live { cells, rw := true, grow } := by rw [Heap.get_upd, if_pos rfl]
  refine ⟨hle, ⟨⟨?_, ?_, ?_, ?_, ?_, ?_, ?_, ?_, ?_⟩, ?_, hI.sameBase, ho.trans hI.os, ht.trans hI.tape, hu.trans hI.output, ?_, ?_, ?_⟩⟩
  · intro b blk hb
    by_cases hbn : b = new
    · subst hbn; exact ⟨_, hpn⟩
    · rw [hgo b hbn] at hb; rw [hpo b hbn]; exact hI.sim.some_ b blk hb
  · intro b blk c hb hc
    by_cases hbn : b = new
    · subst hbn
      rw [hgn] at hb; injection hb with hb; subst hb
      rw [hpn] at hc; injection hc with hc; subst hc
      exact hcells.mono hle
    · rw [hgo b hbn] at hb; rw [hpo b hbn] at hc
      refine ((hI.sim.cells b blk c hb hc).of_cell fun hpos o => cell_of_heap (hold _ ?_) o).mono hle
      exact hI.sim.inside b blk c hb hc (.inl hpos)
  · intro b blk c hb hc hso
    by_cases hbn : b = new
    · subst hbn
      rw [hpn] at hc; injection hc with hc; subst hc
      rw [hh]; simp
    · rw [hgo b hbn] at hb; rw [hpo b hbn] at hc
      have := hI.sim.inside b blk c hb hc hso
      rw [hh]; simp; omega
  · intro b blk c hb hc hrw hso
    by_cases hbn : b = new
    · subst hbn
      rw [hgn] at hb; injection hb with hb; subst hb
      rw [hpn] at hc; injection hc with hc; subst hc
      exact ⟨rfl, cs, e, hnewb, hlen, hgrow⟩
    · rw [hgo b hbn] at hb; rw [hpo b hbn] at hc
      obtain ⟨h1, cs', e', h2, h3⟩ := hI.sim.own b blk c hb hc hrw hso
      exact ⟨h1, cs', e', by rw [hold _ (hI.sim.inside b blk c hb hc hso)]; exact h2, h3⟩
  · intro b b' blk blk' c c' hb hb' hne hc hc' hrw hso hso'
    by_cases hbn : b = new
    · subst hbn
      have hb'n : b' ≠ b := fun e => hne e.symm
      rw [hpn] at hc; injection hc with hc; subst hc
      rw [hgo b' hb'n] at hb'; rw [hpo b' hb'n] at hc'
      have := hI.sim.inside b' blk' c' hb' hc' hso'
      simp; omega
    · by_cases hbn' : b' = new
      · subst hbn'
        rw [hpn] at hc'; injection hc' with hc'; subst hc'
        rw [hgo b hbn] at hb; rw [hpo b hbn] at hc
        have := hI.sim.inside b blk c hb hc hso
        simp; omega
      · rw [hgo b hbn] at hb; rw [hpo b hbn] at hc
        rw [hgo b' hbn'] at hb'; rw [hpo b' hbn'] at hc'
        exact hI.sim.apart b b' blk blk' c c' hb hb' hne hc hc' hrw hso hso'
  · intro b hb
    by_cases hbn : b = new
    · subst hbn; rw [hgn] at hb; cases hb
    · rw [hgo b hbn] at hb; rw [hpo b hbn]; exact hI.sim.dom b hb
  · show ρ.base.heap.size ≤ _
    rw [hh]; simp; have := hI.sim.baseLe; omega
  · intro i hi
    have hi : i < ρ.base.heap.size := hi
    rw [hold i (by have := hI.sim.baseLe; omega)]; exact hI.sim.old i hi
  · intro b blk c hb hc hrw hso
    show ρ.base.heap.size ≤ _
    by_cases hbn : b = new
    · subst hbn
      rw [hpn] at hc; injection hc with hc; subst hc
      exact hI.sim.baseLe
    · rw [hgo b hbn] at hb; rw [hpo b hbn] at hc
      exact hI.sim.above b blk c hb hc hrw hso
  · intro b hb
    rw [hpo b (by omega)]; exact hI.agree b hb
  · rw [hh]; simp; have := hI.size; omega
  · intro i hi hn'
    rw [hold i (by have := hI.size; omega)]; exact hI.keep i hi hn'
  · intro b blk c hb hc hrw hso
    by_cases hbn : b = new
    · subst hbn
      rw [hpn] at hc; injection hc with hc; subst hc
      exact .inl hI.size
    · rw [hgo b hbn] at hb; rw [hpo b hbn] at hc
      exact hI.fresh b blk c hb hc hrw hso

/-- A row of long ago is given a number. -/
theorem Inv.addRo {Γ : Ctx} {ρ : Ren} {h : Heap} {w : World} (hI : Inv Γ ρ h w) {new : Nat} (hn : Γ.n0 ≤ new) (hfree : h.get new = .free) (r : List Value) (cb co : Nat) (hr : ∀ (j : Nat) (v : Value), r[j]? = some v → ρ.base.cell? ⟨cb, co + j, none⟩ = some v) :
    ρ.le (ρ.put new (cb, co, 0)) ∧ Inv Γ (ρ.put new (cb, co, 0)) (h.upd new (.live { cells := .sym r, rw := false })) w := by
  have hle := Ren.le_put (c := (cb, co, 0)) (hI.sim.dom new hfree)
  have hpn : (ρ.put new (cb, co, 0)) new = some (cb, co, 0) := by simp [Ren.put]
  have hpo : ∀ b, b ≠ new → (ρ.put new (cb, co, 0)) b = ρ b := fun b hb => by simp [Ren.put, hb]
  have hgo : ∀ b, b ≠ new → (h.upd new (.live { cells := .sym r, rw := false })).get b = h.get b := fun b hb => by rw [Heap.get_upd, if_neg hb]
  have hgn : (h.upd new (.live { cells := .sym r, rw := false })).get new = .live { cells := .sym r, rw := false } := by rw [Heap.get_upd, if_pos rfl]
  have hin : 0 < r.length → cb < ρ.base.heap.size := fun hpos => by
    have := hr 0 r[0] (List.getElem?_eq_getElem hpos)
    rcases Nat.lt_or_ge cb ρ.base.heap.size with h' | h'
    · exact h'
    · simp [World.cell?, Array.getElem?_eq_none h'] at this
  have solid0 : ∀ c, Blk.solid { cells := .sym r, rw := false } c → 0 < r.length := fun c hs => by
    rcases hs with hs | hs
    · exact hs
    · cases hs.1
  refine ⟨hle, ⟨⟨?_, ?_, ?_, ?_, ?_, ?_, hI.sim.baseLe, hI.sim.old, ?_⟩, ?_, hI.sameBase, hI.os, hI.tape, hI.output, hI.size, hI.keep, ?_⟩⟩
  · intro b blk hb
    by_cases hbn : b = new
    · subst hbn; exact ⟨_, hpn⟩
    · rw [hgo b hbn] at hb; rw [hpo b hbn]; exact hI.sim.some_ b blk hb
  · intro b blk c hb hc
    by_cases hbn : b = new
    · subst hbn
      rw [hgn] at hb; injection hb with hb; subst hb
      rw [hpn] at hc; injection hc with hc; subst hc
      intro j v hj
      have h1 := hr j v hj
      have h2 := hin (by
        rcases Nat.lt_or_ge j r.length with h' | h'
        · omega
        · simp [List.getElem?_eq_none h'] at hj)
      rw [← h1]
      simp [World.cell?, hI.sim.old cb h2]
    · rw [hgo b hbn] at hb; rw [hpo b hbn] at hc
      exact (hI.sim.cells b blk c hb hc).mono hle
  · intro b blk c hb hc hso
    by_cases hbn : b = new
    · subst hbn
      rw [hgn] at hb; injection hb with hb; subst hb
      rw [hpn] at hc; injection hc with hc; subst hc
      have := hin (solid0 _ hso)
      have := hI.sim.baseLe
      simp only; omega
    · rw [hgo b hbn] at hb; rw [hpo b hbn] at hc
      exact hI.sim.inside b blk c hb hc hso
  · intro b blk c hb hc hrw hso
    by_cases hbn : b = new
    · subst hbn
      rw [hgn] at hb; injection hb with hb; subst hb
      cases hrw
    · rw [hgo b hbn] at hb; rw [hpo b hbn] at hc
      exact hI.sim.own b blk c hb hc hrw hso
  · intro b b' blk blk' c c' hb hb' hne hc hc' hrw hso hso'
    by_cases hbn : b = new
    · subst hbn
      rw [hgn] at hb; injection hb with hb; subst hb
      cases hrw
    · rw [hgo b hbn] at hb; rw [hpo b hbn] at hc
      by_cases hbn' : b' = new
      · subst hbn'
        rw [hgn] at hb'; injection hb' with hb'; subst hb'
        rw [hpn] at hc'; injection hc' with hc'; subst hc'
        have h1 := hin (solid0 _ hso')
        have h2 := hI.sim.above b blk c hb hc hrw hso
        simp only; omega
      · rw [hgo b' hbn'] at hb'; rw [hpo b' hbn'] at hc'
        exact hI.sim.apart b b' blk blk' c c' hb hb' hne hc hc' hrw hso hso'
  · intro b hb
    by_cases hbn : b = new
    · subst hbn; rw [hgn] at hb; cases hb
    · rw [hgo b hbn] at hb; rw [hpo b hbn]; exact hI.sim.dom b hb
  · intro b blk c hb hc hrw hso
    by_cases hbn : b = new
    · subst hbn
      rw [hgn] at hb; injection hb with hb; subst hb
      cases hrw
    · rw [hgo b hbn] at hb; rw [hpo b hbn] at hc
      exact hI.sim.above b blk c hb hc hrw hso
  · intro b hb
    rw [hpo b (by omega)]; exact hI.agree b hb
  · intro b blk c hb hc hrw hso
    by_cases hbn : b = new
    · subst hbn
      rw [hgn] at hb; injection hb with hb; subst hb
      cases hrw
    · rw [hgo b hbn] at hb; rw [hpo b hbn] at hc
      exact hI.fresh b blk c hb hc hrw hso

/-- A block of the call's own is written; it may go by another number behind the write ('b2', free till now; the elder number is dead then), as where an append finds room. -/
theorem Inv.write {Γ : Ctx} {ρ : Ren} {h : Heap} {w w' : World} (hI : Inv Γ ρ h w) {b : Nat} {blk : Blk} (hb : h.get b = .live blk) (hrw : blk.rw = true) {cb co cc : Nat} (hρ : ρ b = some (cb, co, cc)) (hsol : blk.solid (cb, co, cc))
    (cs : Array Value) (e : TypeId) (hcs : w.heap[cb]? = some (.cells cs e (0, 0))) (cs' : Array Value) (hsz : cs'.size = cs.size) (cells : Cells)
    (hh : w'.heap = w.heap.setIfInBounds cb (.cells cs' e (0, 0))) (ho : w'.os = w.os) (ht : w'.tape = w.tape) (hu : w'.output = w.output)
    (hcells : CellsAt ρ w' cb 0 cells) (hlen : cells.len ≤ cs.size) :
    Inv Γ ρ (h.upd b (.live { blk with cells })) w' := by
  have hin := hI.sim.inside b blk _ hb hρ hsol
  have hold : ∀ i, i ≠ cb → w'.heap[i]? = w.heap[i]? := fun i hi => by rw [hh, Array.getElem?_setIfInBounds_ne (fun e => hi e.symm)]
  have hnew : w'.heap[cb]? = some (.cells cs' e (0, 0)) := by rw [hh]; simp at hin; simp [hin]
  have hgo : ∀ x, x ≠ b → (h.upd b (.live { blk with cells })).get x = h.get x := fun x hx => by rw [Heap.get_upd, if_neg hx]
  have hgn : (h.upd b (.live { blk with cells })).get b = .live { blk with cells } := by rw [Heap.get_upd, if_pos rfl]
  have hap : ∀ x xb c, x ≠ b → h.get x = .live xb → ρ x = some c → xb.solid c → c.1 ≠ cb := fun x xb c hx hg hc hso e =>
    hI.sim.apart b x blk xb _ c hb hg (fun e' => hx e'.symm) hρ hc hrw hsol hso e.symm
  have hsize : w'.heap.size = w.heap.size := by rw [hh]; simp
  refine ⟨⟨?_, ?_, ?_, ?_, ?_, ?_, by rw [hsize]; exact hI.sim.baseLe, ?_, ?_⟩, hI.agree, hI.sameBase, ho.trans hI.os, ht.trans hI.tape, hu.trans hI.output, by rw [hsize]; exact hI.size, ?_, ?_⟩
  · intro x xb hx
    by_cases hxb : x = b
    · subst hxb; exact ⟨_, hρ⟩
    · rw [hgo x hxb] at hx; exact hI.sim.some_ x xb hx
  · intro x xb c hx hc
    by_cases hxb : x = b
    · subst hxb
      rw [hgn] at hx; injection hx with hx; subst hx
      rw [hρ] at hc; injection hc with hc; subst hc
      have := (hI.sim.own x blk _ hb hρ hrw hsol).1
      simp at this; subst this
      exact hcells
    · rw [hgo x hxb] at hx
      exact (hI.sim.cells x xb c hx hc).of_cell fun hpos o => cell_of_heap (hold _ (hap x xb c hxb hx hc (.inl hpos))) o
  · intro x xb c hx hc hso
    rw [hsize]
    by_cases hxb : x = b
    · subst hxb; rw [hρ] at hc; injection hc with hc; subst hc; exact hin
    · rw [hgo x hxb] at hx; exact hI.sim.inside x xb c hx hc hso
  · intro x xb c hx hc hr hso
    by_cases hxb : x = b
    · subst hxb
      rw [hgn] at hx; injection hx with hx; subst hx
      rw [hρ] at hc; injection hc with hc; subst hc
      obtain ⟨h1, cs0, e0, h2, h3, h4⟩ := hI.sim.own x blk _ hb hρ hrw hsol
      refine ⟨h1, cs', e, hnew, by rw [hsz]; exact hlen, fun sz hg => ?_⟩
      simp only [hcs, Option.some.injEq, Obj.cells.injEq] at h2
      rw [hsz, h2.1]; exact h4 sz hg
    · rw [hgo x hxb] at hx
      obtain ⟨h1, cs0, e0, h2, h3⟩ := hI.sim.own x xb c hx hc hr hso
      exact ⟨h1, cs0, e0, by rw [hold _ (hap x xb c hxb hx hc hso)]; exact h2, h3⟩
  · intro x y xb yb c d hx hy hne hc hd hr hso hso'
    have solid_of : ∀ z zb c, (h.upd b (.live { blk with cells })).get z = .live zb → ρ z = some c → zb.solid c → ∃ zb', h.get z = .live zb' ∧ zb'.solid c ∧ (zb.rw = true → zb'.rw = true) := fun z zb c hz hc hs => by
      by_cases hzb : z = b
      · subst hzb; rw [hρ] at hc; injection hc with hc; subst hc; exact ⟨blk, hb, hsol, fun _ => hrw⟩
      · rw [hgo z hzb] at hz; exact ⟨zb, hz, hs, id⟩
    obtain ⟨xb', h1, h2, h2'⟩ := solid_of x xb c hx hc hso
    obtain ⟨yb', h3, h4, _⟩ := solid_of y yb d hy hd hso'
    exact hI.sim.apart x y xb' yb' c d h1 h3 hne hc hd (h2' hr) h2 h4
  · intro x hx
    by_cases hxb : x = b
    · subst hxb; rw [hgn] at hx; cases hx
    · rw [hgo x hxb] at hx; exact hI.sim.dom x hx
  · intro i hi
    have hab := hI.sim.above b blk _ hb hρ hrw hsol
    simp only at hab
    rw [hold i (by omega)]; exact hI.sim.old i hi
  · intro x xb c hx hc hr hso
    by_cases hxb : x = b
    · subst hxb; rw [hρ] at hc; injection hc with hc; subst hc; exact hI.sim.above x blk _ hb hρ hrw hsol
    · rw [hgo x hxb] at hx; exact hI.sim.above x xb c hx hc hr hso
  · intro i hi hn
    by_cases hib : i = cb
    · subst hib
      exfalso
      rcases hI.fresh b blk _ hb hρ hrw hsol with h1 | h1
      · simp at h1; omega
      · exact hn h1
    · rw [hold i hib]; exact hI.keep i hi hn
  · intro x xb c hx hc hr hso
    by_cases hxb : x = b
    · subst hxb; rw [hρ] at hc; injection hc with hc; subst hc; exact hI.fresh x blk _ hb hρ hrw hsol
    · rw [hgo x hxb] at hx; exact hI.fresh x xb c hx hc hr hso

/-- A block is let go: nothing is known of it any more (pointers to it may lie about). -/
theorem Inv.kill {Γ : Ctx} {ρ : Ren} {h : Heap} {w : World} (hI : Inv Γ ρ h w) (b : Nat) : Inv Γ ρ (h.upd b .dead) w := by
  have hg : ∀ x xb, (h.upd b .dead).get x = .live xb → h.get x = .live xb := fun x xb hx => by
    rw [Heap.get_upd] at hx
    split at hx
    · cases hx
    · exact hx
  refine ⟨⟨fun x xb hx => hI.sim.some_ x xb (hg x xb hx), fun x xb c hx => hI.sim.cells x xb c (hg x xb hx), fun x xb c hx => hI.sim.inside x xb c (hg x xb hx), fun x xb c hx => hI.sim.own x xb c (hg x xb hx),
    fun x y xb yb c d hx hy => hI.sim.apart x y xb yb c d (hg x xb hx) (hg y yb hy), fun x hx => ?_, hI.sim.baseLe, hI.sim.old, fun x xb c hx => hI.sim.above x xb c (hg x xb hx)⟩, hI.agree, hI.sameBase, hI.os, hI.tape, hI.output, hI.size, hI.keep, fun x xb c hx => hI.fresh x xb c (hg x xb hx)⟩
  rw [Heap.get_upd] at hx
  split at hx
  · cases hx
  · exact hI.sim.dom x hx

end Go.Ab
