/-
  CORE 4: alloc, box, build, buildSlice, load, store, addresses, parts.
-/
import Derived.Test.YtiikkepnpidilaaCore3
set_option linter.unusedVariables false
set_option linter.unusedSimpArgs false
namespace Go.Ab

/-! ### new blocks -/
def newBlk (l : List AV) : Ent := .live { cells := .lit l, rw := true }

theorem alloc_lit {Γ : Ctx} {ρ : Ren} {h : Heap} {w : World} (hI : Inv Γ ρ h w) {new : Nat} (hn : Γ.n0 ≤ new) (hfree : h.get new = .free) (e : TypeId) {l : List AV} {cs : Array Value} (hl : VRs ρ l cs.toList) :
    ∃ ρ', ρ.le ρ' ∧ ρ' new = some (w.heap.size, 0, 0) ∧ Inv Γ ρ' (h.upd new (newBlk l)) { w with heap := w.heap.push (.cells cs e (0, 0)) } := by
  have hc : CellsAt ρ { w with heap := w.heap.push (.cells cs e (0, 0)) } w.heap.size 0 (.lit l) := by
    intro i v hi
    obtain ⟨cv, h1, h2⟩ := hl.get i v hi
    refine ⟨cv, ?_, h2⟩
    simp [World.cell?]
    simpa using h1
  obtain ⟨h1, h2⟩ := hI.alloc (w' := { w with heap := w.heap.push (.cells cs e (0, 0)) }) hn hfree cs e (.lit l) none 0 rfl rfl rfl rfl hc (by simp [Cells.len]; have := hl.length; simp at this; omega) (by intro sz h; cases h)
  exact ⟨_, h1, by simp [Ren.put], h2⟩

theorem run_newRow {P : Program} (e : TypeId) (cs : Array Value) (w : World) : (newRow e cs).run P w = .ok ⟨w.heap.size, 0, none⟩ { w with heap := w.heap.push (.cells cs e (0, 0)) } := by
  simp [newRow, newObj, Sem.run_bind, Sem.run, Result.andThen, pure]

def zeroCells (P : Program) (t : TypeId) : Option (List AV) := (P.info? t).bind fun i => i.zero.map fun z => z.cells.toList.map .val

def coreAlloc (P : Program) (t : TypeId) (new : Nat) : Option Eff := (zeroCells P t).map fun l => { wb := [(new, newBlk l)], nw := 1, val := .ptr new 0 }
theorem coreAlloc_ok {P : Program} {Γ : Ctx} {ρ : Ren} {h : Heap} {w : World} (hI : Inv Γ ρ h w) {t : TypeId} {new : Nat} {e : Eff} (hc : coreAlloc P t new = some e) (hn : Γ.n0 ≤ new) (hfree : h.get new = .free) :
    OpOK P Γ ρ h w (do pure (.value (← Instr.alloc t true (.tuple #[])))) e := by
  simp only [coreAlloc, zeroCells, Option.map_eq_some_iff, Option.bind_eq_some_iff] at hc
  obtain ⟨l, ⟨i, hi, z, hz, rfl⟩, rfl⟩ := hc
  obtain ⟨ρ', h1, h2, h3⟩ := alloc_lit hI hn hfree t (VRs.vals z.cells.toList)
  refine ⟨ρ', _, _, _, run_v (v := .pointer (some ⟨w.heap.size, 0, none⟩)) ?_, .inl rfl, h1, ?_, h3⟩
  · simp [Instr.alloc, Sem.run_bind, run_zero hi hz, Result.andThen, newVar, run_newRow, pure, Sem.run]
  · simp [VR, h2]

def coreBox (v : AV) (new : Nat) : Option Eff := v.asCells.map fun l => { wb := [(new, newBlk l)], nw := 1, val := .ptr new 0 }
theorem coreBox_ok {P : Program} {Γ : Ctx} {ρ : Ren} {h : Heap} {w : World} (hI : Inv Γ ρ h w) {t : TypeId} {a : AV} {v : Value} (hv : VR ρ a v) {new : Nat} {e : Eff} (hc : coreBox a new = some e) (hn : Γ.n0 ≤ new) (hfree : h.get new = .free) :
    OpOK P Γ ρ h w (do pure (.value (← Instr.box t v))) e := by
  simp only [coreBox, Option.map_eq_some_iff] at hc
  obtain ⟨l, hl, rfl⟩ := hc
  obtain ⟨ρ', h1, h2, h3⟩ := alloc_lit hI hn hfree t (cells_of hl hv)
  refine ⟨ρ', _, _, _, run_v (v := .pointer (some ⟨w.heap.size, 0, none⟩)) ?_, .inl rfl, h1, ?_, h3⟩
  · simp [Instr.box, Sem.run_bind, Result.andThen, newVar, run_newRow, pure, Sem.run]
  · simp [VR, h2]

/-! ### build -/
def setRange (l : List AV) (o : Nat) (vs : List AV) : List AV := l.take o ++ vs ++ l.drop (o + vs.length)

/-- The parts laid into a row of cells. -/
def fillA (place : Nat → Option (Nat × Nat)) (cells : List AV) : List (Nat × AV) → Option (List AV)
  | [] => some cells
  | (i, v) :: rest =>
    match place i, v.asCells with
    | some (off, size), some vs => if vs.length = size ∧ off + vs.length ≤ cells.length then fillA place (setRange cells off vs) rest else none
    | _, _ => none

theorem foldl_set (vs : List Value) : ∀ (off : Nat) (cs : Array Value) (j0 : Nat), off + j0 + vs.length ≤ cs.size →
    ((vs.zipIdx j0).foldl (fun cs (x : Value × Nat) => cs.setIfInBounds (off + x.2) x.1) cs).toList = cs.toList.take (off + j0) ++ vs ++ cs.toList.drop (off + j0 + vs.length) := by
  induction vs with
  | nil => intro off cs j0 h; simp
  | cons v vs ih =>
    intro off cs j0 h
    simp only [List.zipIdx_cons, List.foldl_cons]
    rw [show off + (j0) = off + j0 from rfl]
    have h' := ih off (cs.setIfInBounds (off + j0) v) (j0 + 1) (by simp at h ⊢; omega)
    rw [h']
    simp only [Array.toList_setIfInBounds, List.length_cons]
    have hlt : off + j0 < cs.toList.length := by simp at h ⊢; omega
    rw [show off + (j0 + 1) = off + j0 + 1 by omega]
    have e1 : (cs.toList.set (off + j0) v).take (off + j0 + 1) = cs.toList.take (off + j0) ++ [v] := by
      rw [List.take_succ_eq_append_getElem (by simpa using hlt)]
      simp [List.take_set_of_le]
    have e2 : (cs.toList.set (off + j0) v).drop (off + j0 + 1 + vs.length) = cs.toList.drop (off + j0 + (vs.length + 1)) := by
      rw [List.drop_set_of_lt (by omega)]
      congr 1; omega
    rw [e1, e2]; simp

theorem VRs.setRange {ρ : Ren} {l : List AV} {cs : List Value} (h : VRs ρ l cs) {o : Nat} {vs : List AV} {us : List Value} (hv : VRs ρ vs us) : VRs ρ (setRange l o vs) (cs.take o ++ us ++ cs.drop (o + us.length)) := by
  unfold Ab.setRange
  rw [hv.length]
  exact ((h.take _).append hv).append (h.drop _)

theorem fillA_ok {ρ : Ren} {place : Nat → Option (Nat × Nat)} : ∀ (ps : List (Nat × AV)) (us : List (Nat × Value)) (cells : List AV) (cs : Array Value) (out : List AV), fillA place cells ps = some out → VRs ρ cells cs.toList →
    ps.map (·.1) = us.map (·.1) → VRs ρ (ps.map (·.2)) (us.map (·.2)) → ∃ cs', Instr.fill place cs us = some cs' ∧ VRs ρ out cs'.toList
  | [], us, cells, cs, out, hf, hc, h1, h2 => by
    cases us with
    | nil => simp [fillA] at hf; subst hf; exact ⟨cs, rfl, hc⟩
    | cons => simp at h1
  | (i, a) :: ps, us, cells, cs, out, hf, hc, h1, h2 => by
    cases us with
    | nil => simp at h1
    | cons u us =>
      obtain ⟨i', v⟩ := u
      simp only [List.map_cons, List.cons.injEq] at h1
      obtain ⟨rfl, h1⟩ := h1
      simp only [List.map_cons, VRs] at h2
      simp only [fillA] at hf
      cases hp : place i with
      | none => simp [hp] at hf
      | some os =>
        obtain ⟨off, size⟩ := os
        cases ha : a.asCells with
        | none => simp [hp, ha] at hf
        | some vs =>
          simp only [hp, ha] at hf
          split at hf
          · rename_i hcond
            have hvs := cells_of ha h2.1
            have hlen := hvs.length
            have hlc := hc.length
            simp only [Instr.fill, hp]
            simp only [Array.length_toList] at hlen hlc
            rw [if_neg (by simp; omega)]
            have hfold := foldl_set v.cells.toList off cs 0 (by simp; omega)
            obtain ⟨cs', h3, h4⟩ := fillA_ok ps us (Ab.setRange cells off vs) (v.cells.zipIdx.foldl (fun cs (x : Value × Nat) => cs.setIfInBounds (off + x.2) x.1) cs) out hf (by
              have e : (v.cells.zipIdx.foldl (fun cs (x : Value × Nat) => cs.setIfInBounds (off + x.2) x.1) cs).toList = cs.toList.take off ++ v.cells.toList ++ cs.toList.drop (off + v.cells.toList.length) := by
                rw [← Array.foldl_toList, Array.toList_zipIdx]
                simpa using hfold
              rw [e]
              exact hc.setRange hvs) h1 h2.2
            exact ⟨cs', h3, h4⟩
          · cases hf

def zipParts (ps : Array (Nat × Operand)) (E : Operand → AV) : List (Nat × AV) := ps.toList.map fun p => (p.1, E p.2)

def structPlaces (P : Program) (fs : Array Field) : Option (List (Nat × Nat)) := fs.toList.mapM fun f => (P.info? f.type).map fun i => (f.offset, i.size)

def coreBuild (P : Program) (t : TypeId) (ps : List (Nat × AV)) : Option Eff :=
  (zeroCells P t).bind fun z =>
    match P.underlying t with
    | some (.struct fs) => (structPlaces P fs).bind fun pl => (fillA (fun i => pl.toArray[i]?) z ps).map fun out => { val := .agg out }
    | some (.array _ e) => (P.info? e).bind fun i => (fillA (fun k => some (k * i.size, i.size)) z ps).map fun out => { val := .agg out }
    | _ => none

theorem run_underlying' {P : Program} {t : TypeId} {d : TypeDesc} (h : P.underlying t = some d) (w : World) : (underlying t).run P w = .ok d w := run_underlying h w

theorem run_mapM_list {P : Program} {α β : Type} (f : α → Sem β) (g : α → Option β) (w : World) (hfg : ∀ x y, g x = some y → (f x).run P w = .ok y w) : ∀ (l : List α) (r : List β), l.mapM g = some r → (l.mapM f).run P w = .ok r w
  | [], r, h => by simp at h; subst h; simp [pure, Sem.run]
  | x :: l, r, h => by
    simp only [List.mapM_cons, Option.bind_eq_bind, Option.bind_eq_some_iff] at h
    obtain ⟨y, hy, l', hl', h⟩ := h
    simp at h; subst h
    simp only [List.mapM_cons, Sem.run_bind, hfg x y hy, Result.andThen, run_mapM_list f g w hfg l l' hl']
    simp [pure, Sem.run]

theorem run_places {P : Program} (w : World) {fs : Array Field} {pl : List (Nat × Nat)} (h : structPlaces P fs = some pl) : (fs.mapM fun f => do pure (f.offset, ← sizeOf f.type) : Sem (Array (Nat × Nat))).run P w = .ok pl.toArray w := by
  rw [Array.mapM_eq_mapM_toList]
  have := run_mapM_list (P := P) (fun f : Field => (do pure (f.offset, ← sizeOf f.type) : Sem (Nat × Nat))) (fun f : Field => (P.info? f.type).map fun i : TypeInfo => (f.offset, i.size)) w (by
    intro f y hy
    simp only [Option.map_eq_some_iff] at hy
    obtain ⟨i, hi, rfl⟩ := hy
    simp [Sem.run_bind, run_size hi, Result.andThen, pure, Sem.run]) fs.toList pl h
  rw [map_eq_pure_bind, Sem.run_bind, this]
  simp [Result.andThen, pure, Sem.run]

theorem coreBuild_ok {P : Program} {Γ : Ctx} {ρ : Ren} {h : Heap} {w : World} (hI : Inv Γ ρ h w) {t : TypeId} {ps : List (Nat × AV)} {us : Array (Nat × Value)} (h1 : ps.map (·.1) = us.toList.map (·.1)) (h2 : VRs ρ (ps.map (·.2)) (us.toList.map (·.2))) {e : Eff} (hc : coreBuild P t ps = some e) :
    OpOK P Γ ρ h w (do pure (.value (← Instr.build t us))) e := by
  simp only [coreBuild, zeroCells, Option.bind_eq_some_iff, Option.map_eq_some_iff] at hc
  obtain ⟨z, ⟨i, hi, zv, hz, rfl⟩, hc⟩ := hc
  cases hu : P.underlying t with
  | none => simp [hu] at hc
  | some d =>
    cases d with
    | struct fs =>
      simp only [hu, Option.bind_eq_some_iff, Option.map_eq_some_iff] at hc
      obtain ⟨pl, hpl, out, hf, rfl⟩ := hc
      obtain ⟨cs', h3, h4⟩ := fillA_ok (ρ := ρ) ps us.toList _ zv.cells out hf (VRs.vals _) h1 h2
      refine .pure hI (.agg cs') (run_v ?_) (by simp only [VR]; exact ⟨cs', rfl, h4⟩) rfl
      simp only [Instr.build, Sem.run_bind, run_zero hi hz, Result.andThen, run_underlying' hu, run_places w hpl, h3]
      rfl
    | array n el =>
      simp only [hu, Option.bind_eq_some_iff, Option.map_eq_some_iff] at hc
      obtain ⟨ie, hie, out, hf, rfl⟩ := hc
      obtain ⟨cs', h3, h4⟩ := fillA_ok (ρ := ρ) ps us.toList _ zv.cells out hf (VRs.vals _) h1 h2
      refine .pure hI (.agg cs') (run_v ?_) (by simp only [VR]; exact ⟨cs', rfl, h4⟩) rfl
      simp only [Instr.build, Sem.run_bind, run_zero hi hz, Result.andThen, run_underlying' hu, run_size hie, h3, pure, Sem.run]
    | _ => simp [hu] at hc

end Go.Ab
