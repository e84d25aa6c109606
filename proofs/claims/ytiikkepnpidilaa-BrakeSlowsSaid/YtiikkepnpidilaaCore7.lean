/-
  CORE 7: a call by its contract: the contract speaks of a small heap of its own; here it is carried into the caller's.
-/
import Derived.Test.YtiikkepnpidilaaCore6
set_option linter.unusedVariables false
set_option linter.unusedSimpArgs false
namespace Go.Ab

/-- A call of function f, however its body is found. -/
def Invokes (P : Program) (f : FuncId) (args : Array Value) (w : World) (R : Ending → World → Prop) : Prop :=
  match (callFunc f args).run P w with
  | .ok (.enter g as) w' => Calls P g as w' R
  | .ok (.value v) w' => R (.returned v) w'
  | _ => False

/-- The contract of a call: abstract arguments over an abstract heap come to an abstract value and heap. -/
def Does (P : Program) (f : FuncId) (args : List AV) (h : Heap) (v : AV) (h' : Heap) : Prop :=
  ∀ ρ w (cargs : Array Value), Sim ρ h w → VRs ρ args cargs.toList →
    Invokes P f cargs w fun e w' => ∃ ρ' cv, e = .returned cv ∧ VR ρ' v cv ∧ Inv ⟨h.length, ρ, h, w⟩ ρ' h' w'

def renB (σ : List (Nat × Nat)) (n new b o : Nat) : Nat × Nat :=
  if b < n then match σ[b]? with
    | some (x, off) => (x, off + o)
    | none => (b, o)
  else (new + (b - n), o)
mutual
def renA (σ : List (Nat × Nat)) (n new : Nat) : AV → AV
  | .ptr b o => .ptr (renB σ n new b o).1 (renB σ n new b o).2
  | .elt b o i w f => .elt (renB σ n new b o).1 (renB σ n new b o).2 i w f
  | .slc b o k c => .slc (renB σ n new b o).1 (renB σ n new b o).2 k c
  | .fn f a b => .fn f (renL σ n new a) (renL σ n new b)
  | .agg cs => .agg (renL σ n new cs)
  | .tup vs => .tup (renL σ n new vs)
  | .ifc t v => .ifc t (renA σ n new v)
  | .any => .any
  | .val v => .val v
def renL (σ : List (Nat × Nat)) (n new : Nat) : List AV → List AV
  | [] => []
  | a :: as => renA σ n new a :: renL σ n new as
end
def renCells (σ : List (Nat × Nat)) (n new : Nat) : Cells → Cells
  | .lit l => .lit (renL σ n new l)
  | .sym l => .sym l
  | .rows l => .rows l
  | .arr s l => .arr s l
  | .arrs s l => .arrs s l
def renBlk (σ : List (Nat × Nat)) (n new : Nat) (b : Blk) : Blk := { b with cells := renCells σ n new b.cells }
theorem renL_length (σ : List (Nat × Nat)) (n new : Nat) : ∀ l, (renL σ n new l).length = l.length
  | [] => rfl
  | a :: as => by simp [renL, renL_length σ n new as]
theorem renL_get (σ : List (Nat × Nat)) (n new : Nat) : ∀ (l : List AV) (i : Nat), (renL σ n new l)[i]? = (l[i]?).map (renA σ n new)
  | [], i => by simp [renL]
  | a :: as, 0 => by simp [renL]
  | a :: as, i + 1 => by simpa [renL] using renL_get σ n new as i
theorem renCells_len (σ : List (Nat × Nat)) (n new : Nat) (c : Cells) : (renCells σ n new c).len = c.len := by
  cases c <;> simp [renCells, Cells.len, renL_length]

mutual
/-- A value that names only blocks below m. -/
def okA (m : Nat) : AV → Bool
  | .ptr b _ => decide (b < m)
  | .elt b _ _ _ _ => decide (b < m)
  | .slc b _ _ _ => decide (b < m)
  | .fn _ a b => okL m a && okL m b
  | .agg cs => okL m cs
  | .tup vs => okL m vs
  | .ifc _ v => okA m v
  | .any => true
  | .val _ => true
def okL (m : Nat) : List AV → Bool
  | [] => true
  | a :: as => okA m a && okL m as
end
def okCells (m : Nat) : Cells → Bool
  | .lit l => okL m l
  | _ => true
def okEnts (m : Nat) : List Ent → Bool
  | [] => true
  | .live b :: es => okCells m b.cells && okEnts m es
  | _ :: es => okEnts m es
theorem okL_get {m : Nat} : ∀ {l : List AV} {i : Nat} {a : AV}, okL m l = true → l[i]? = some a → okA m a = true
  | [], i, a, _, h => by simp at h
  | x :: l, 0, a, h, h' => by simp [okL] at h h'; subst h'; exact h.1
  | x :: l, i + 1, a, h, h' => by simp [okL] at h h'; exact okL_get h.2 h'
theorem okEnts_get {m : Nat} : ∀ {l : List Ent} {i : Nat} {b : Blk}, okEnts m l = true → l[i]? = some (.live b) → okCells m b.cells = true
  | [], i, a, _, h => by simp at h
  | x :: l, 0, a, h, h' => by simp at h'; subst h'; simp [okEnts] at h; exact h.1
  | x :: l, i + 1, a, h, h' => by
    cases x <;> simp [okEnts] at h h'
    · exact okEnts_get h h'
    · exact okEnts_get h h'
    · exact okEnts_get h.2 h'

/-- The two renamings belong together: below n the callee's block b is the caller's block x from off on; the others are one. -/
structure Tied (σ : List (Nat × Nat)) (n new m : Nat) (ρ ρg : Ren) : Prop where
  len : σ.length = n
  base : ρg.base = ρ.base
  old : ∀ b x off, σ[b]? = some (x, off) → ρg b = (ρ x).map fun c => (c.1, c.2.1 + off, c.2.2)
  new_ : ∀ b, n ≤ b → b < m → ρg b = ρ (new + (b - n))

theorem Tied.renB {σ : List (Nat × Nat)} {n new m : Nat} {ρ ρg : Ren} (h : Tied σ n new m ρ ρg) (b o : Nat) (hbm : b < m) :
    (∀ cb co cc, ρg b = some (cb, co, cc) → ∃ co', ρ (Ab.renB σ n new b o).1 = some (cb, co', cc) ∧ co' + (Ab.renB σ n new b o).2 = co + o) ∧
    (∀ cb co cc, ρ (Ab.renB σ n new b o).1 = some (cb, co, cc) → ∃ co', ρg b = some (cb, co', cc) ∧ co + (Ab.renB σ n new b o).2 = co' + o) := by
  unfold Ab.renB
  by_cases hb : b < n
  · rw [if_pos hb]
    have hs : b < σ.length := by rw [h.len]; exact hb
    obtain ⟨⟨x, off⟩, hx'⟩ : ∃ p, σ[b]? = some p := ⟨_, List.getElem?_eq_getElem hs⟩
    rw [hx']
    have ho := h.old b x off hx'
    constructor
    · intro cb co cc hg
      rw [ho] at hg
      simp only [Option.map_eq_some_iff] at hg
      obtain ⟨⟨c1, c2, c3⟩, h1, h2⟩ := hg
      injection h2 with e1 e2; injection e2 with e2 e3
      subst e1; subst e2; subst e3
      exact ⟨c2, h1, by simp only; omega⟩
    · intro cb co cc hg
      refine ⟨co + off, by rw [ho, hg]; rfl, by simp only; omega⟩
  · rw [if_neg hb, h.new_ b (by omega) hbm]
    exact ⟨fun cb co cc hg => ⟨co, hg, rfl⟩, fun cb co cc hg => ⟨co, hg, rfl⟩⟩

mutual
theorem VR.ren {σ : List (Nat × Nat)} {n new m : Nat} {ρ ρg : Ren} (h : Tied σ n new m ρ ρg) : ∀ (v : AV) (cv : Value), okA m v = true → (VR ρ (renA σ n new v) cv ↔ VR ρg v cv)
  | .any, cv, _ => by simp [renA, VR]
  | .val v, cv, _ => by simp [renA, VR]
  | .ptr b o, cv, hm => by
    simp only [okA, decide_eq_true_eq] at hm
    simp only [renA, VR]
    obtain ⟨h1, h2⟩ := h.renB b o hm
    constructor
    · rintro ⟨cb, co, cc, e1, rfl⟩
      obtain ⟨co', e2, e3⟩ := h2 _ _ _ e1
      exact ⟨cb, co', cc, e2, by rw [e3]⟩
    · rintro ⟨cb, co, cc, e1, rfl⟩
      obtain ⟨co', e2, e3⟩ := h1 _ _ _ e1
      exact ⟨cb, co', cc, e2, by rw [e3]⟩
  | .elt b o i w f, cv, hm => by
    simp only [okA, decide_eq_true_eq] at hm
    simp only [renA, VR]
    obtain ⟨h1, h2⟩ := h.renB b o hm
    constructor
    · rintro ⟨cb, co, cc, e1, rfl⟩
      obtain ⟨co', e2, e3⟩ := h2 _ _ _ e1
      exact ⟨cb, co', cc, e2, by congr 3; omega⟩
    · rintro ⟨cb, co, cc, e1, rfl⟩
      obtain ⟨co', e2, e3⟩ := h1 _ _ _ e1
      exact ⟨cb, co', cc, e2, by congr 3; omega⟩
  | .slc b o k (.exact c), cv, hm => by
    simp only [okA, decide_eq_true_eq] at hm
    simp only [renA, VR]
    obtain ⟨h1, h2⟩ := h.renB b o hm
    constructor
    · rintro (⟨cb, co, cc, e1, e4, rfl⟩ | hr)
      · obtain ⟨co', e2, e3⟩ := h2 _ _ _ e1
        exact .inl ⟨cb, co', cc, e2, e4, by rw [e3]⟩
      · exact .inr hr
    · rintro (⟨cb, co, cc, e1, e4, rfl⟩ | hr)
      · obtain ⟨co', e2, e3⟩ := h1 _ _ _ e1
        exact .inl ⟨cb, co', cc, e2, e4, by rw [e3]⟩
      · exact .inr hr
  | .slc b o k .unk, cv, hm => by
    simp only [okA, decide_eq_true_eq] at hm
    simp only [renA, VR]
    obtain ⟨h1, h2⟩ := h.renB b o hm
    constructor
    · rintro (⟨cb, co, cc, c', e1, e4, e5, rfl⟩ | hr)
      · obtain ⟨co', e2, e3⟩ := h2 _ _ _ e1
        exact .inl ⟨cb, co', cc, c', e2, e4, fun e => e5 (by omega), by rw [e3]⟩
      · exact .inr hr
    · rintro (⟨cb, co, cc, c', e1, e4, e5, rfl⟩ | hr)
      · obtain ⟨co', e2, e3⟩ := h1 _ _ _ e1
        exact .inl ⟨cb, co', cc, c', e2, e4, fun e => e5 (by omega), by rw [e3]⟩
      · exact .inr hr
  | .slc b o k .low, cv, hm => by
    simp only [okA, decide_eq_true_eq] at hm
    simp only [renA, VR]
    obtain ⟨h1, h2⟩ := h.renB b o hm
    constructor
    · rintro (⟨cb, co, cc, c', e1, e4, rfl⟩ | hr)
      · obtain ⟨co', e2, e3⟩ := h2 _ _ _ e1
        exact .inl ⟨cb, co', cc, c', e2, e4, by rw [e3]⟩
      · exact .inr hr
    · rintro (⟨cb, co, cc, c', e1, e4, rfl⟩ | hr)
      · obtain ⟨co', e2, e3⟩ := h1 _ _ _ e1
        exact .inl ⟨cb, co', cc, c', e2, e4, by rw [e3]⟩
      · exact .inr hr
  | .fn f a b, cv, hm => by
    simp only [okA, Bool.and_eq_true] at hm
    simp only [renA, VR]
    constructor
    · rintro ⟨x, y, e, h1, h2⟩; exact ⟨x, y, e, (VRs.ren h a _ hm.1).1 h1, (VRs.ren h b _ hm.2).1 h2⟩
    · rintro ⟨x, y, e, h1, h2⟩; exact ⟨x, y, e, (VRs.ren h a _ hm.1).2 h1, (VRs.ren h b _ hm.2).2 h2⟩
  | .agg cs, cv, hm => by
    simp only [okA] at hm
    simp only [renA, VR]
    constructor
    · rintro ⟨x, e, h1⟩; exact ⟨x, e, (VRs.ren h cs _ hm).1 h1⟩
    · rintro ⟨x, e, h1⟩; exact ⟨x, e, (VRs.ren h cs _ hm).2 h1⟩
  | .tup cs, cv, hm => by
    simp only [okA] at hm
    simp only [renA, VR]
    constructor
    · rintro ⟨x, e, h1⟩; exact ⟨x, e, (VRs.ren h cs _ hm).1 h1⟩
    · rintro ⟨x, e, h1⟩; exact ⟨x, e, (VRs.ren h cs _ hm).2 h1⟩
  | .ifc t v, cv, hm => by
    simp only [okA] at hm
    simp only [renA, VR]
    constructor
    · rintro ⟨x, e, h1⟩; exact ⟨x, e, (VR.ren h v _ hm).1 h1⟩
    · rintro ⟨x, e, h1⟩; exact ⟨x, e, (VR.ren h v _ hm).2 h1⟩
theorem VRs.ren {σ : List (Nat × Nat)} {n new m : Nat} {ρ ρg : Ren} (h : Tied σ n new m ρ ρg) : ∀ (l : List AV) (cl : List Value), okL m l = true → (VRs ρ (renL σ n new l) cl ↔ VRs ρg l cl)
  | [], [], _ => by simp [renL, VRs]
  | a :: as, v :: vs, hm => by
    simp only [okL, Bool.and_eq_true] at hm
    simp only [renL, VRs]
    rw [VR.ren h a v hm.1, VRs.ren h as vs hm.2]
  | [], _ :: _, _ => by simp [renL, VRs]
  | _ :: _, [], _ => by simp [renL, VRs]
end

theorem CellsAt.ren {σ : List (Nat × Nat)} {n new m : Nat} {ρ ρg : Ren} (h : Tied σ n new m ρ ρg) (w : World) (cb co : Nat) (cs : Cells) (hm : okCells m cs = true) : CellsAt ρ w cb co (renCells σ n new cs) ↔ CellsAt ρg w cb co cs := by
  cases cs with
  | sym l => rfl
  | rows l => simp only [renCells, CellsAt, h.base]
  | arr s l => rfl
  | arrs s l => simp only [renCells, CellsAt, h.base]
  | lit l =>
    simp only [renCells, CellsAt]
    constructor
    · intro hc i v hi
      obtain ⟨cv, h1, h2⟩ := hc i (renA σ n new v) (by rw [renL_get, hi]; rfl)
      exact ⟨cv, h1, (VR.ren h v cv (okL_get hm hi)).1 h2⟩
    · intro hc i v hi
      rw [renL_get] at hi
      simp only [Option.map_eq_some_iff] at hi
      obtain ⟨u, hu, rfl⟩ := hi
      obtain ⟨cv, h1, h2⟩ := hc i u hu
      exact ⟨cv, h1, (VR.ren h u cv (okL_get hm hu)).2 h2⟩

/-- What is asked of an argument may be less than what is known of it. -/
def AV.adapt1 (e a : AV) : AV :=
  match e, a with
  | .any, _ => .any
  | .slc _ _ _ .low, .slc b o n _ => .slc b o n .low
  | .slc b o 0 .low, .val (.slice none 0 0) => .slc b o 0 .low
  | _, a => a
mutual
def adapt : AV → AV → AV
  | .agg es, .agg as => .agg (adapts es as)
  | .fn _ a b, .fn f x y => .fn f (adapts a x) (adapts b y)
  | e, a => e.adapt1 a
def adapts : List AV → List AV → List AV
  | e :: es, a :: as => adapt e a :: adapts es as
  | _, as => as
end
theorem VR.adapt1 {ρ : Ren} (e a : AV) {cv : Value} (h : VR ρ a cv) : VR ρ (e.adapt1 a) cv := by
  unfold AV.adapt1
  split
  · simp [VR]
  · rcases h.slc_cases with h | h
    · simp only [VR]; exact .inl h
    · simp only [VR]; exact .inr h
  · simp only [VR] at h; subst h; simp [VR]
  · exact h
mutual
theorem VR.adapt {ρ : Ren} : ∀ (e a : AV) {cv : Value}, VR ρ a cv → VR ρ (Ab.adapt e a) cv := by
  intro e a cv h
  unfold Ab.adapt
  split
  · rename_i es as
    simp only [VR] at h ⊢
    obtain ⟨x, h1, h2⟩ := h
    exact ⟨x, h1, VRs.adapt es as h2⟩
  · rename_i f0 a b f x y
    simp only [VR] at h ⊢
    obtain ⟨fs, cs, h1, h2, h3⟩ := h
    exact ⟨fs, cs, h1, VRs.adapt a x h2, VRs.adapt b y h3⟩
  · exact h.adapt1 _ _
theorem VRs.adapt {ρ : Ren} : ∀ (es as : List AV) {cvs : List Value}, VRs ρ as cvs → VRs ρ (Ab.adapts es as) cvs
  | e :: es, a :: as, [], h => by simp [VRs] at h
  | e :: es, a :: as, v :: vs, h => by
    simp only [Ab.adapts, VRs] at *
    exact ⟨VR.adapt e a h.1, VRs.adapt es as h.2⟩
  | [], as, _, h => by simpa [Ab.adapts] using h
  | e :: es, [], _, h => by simpa [Ab.adapts] using h
end

end Go.Ab
