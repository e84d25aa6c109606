/-
  CORE 1: abstract values, abstract heaps, how they stand to a world. One text for all seats; it names no program.
-/
import Derived.Test.YtiikkepnpidilaaCore0
set_option linter.unusedVariables false
set_option linter.unusedSimpArgs false
namespace Go.Ab

/-- A slice's capacity: 'exact'; 'unk': not known, but it lies at the head of a block that may be appended to in place; 'low': not known, nothing is asked. -/
inductive Cap where
  | exact (n : Nat)
  | unk
  | low

/-- Abstract values: 'any' is not looked at; 'val' is just that value; pointers and slices name an abstract block. -/
inductive AV where
  | any
  | val (v : Value)
  | ptr (b o : Nat)
  /-- A pointer into a block of equal parts: from o on, part i of w cells each, its cell f. -/
  | elt (b o i w f : Nat)
  | slc (b o n : Nat) (c : Cap)
  | fn (f : Fn) (first captured : List AV)
  | agg (cells : List AV)
  | tup (vs : List AV)
  | ifc (t : TypeId) (v : AV)
  deriving Inhabited

/-- Where an abstract block lies: the block, the offset, and the capacity of slices at its head (where the call itself appended). -/
structure Ren where
  f : Nat → Option (Nat × Nat × Nat)
  /-- The world of long ago: what lay there is never written. -/
  base : World
instance : CoeFun Ren (fun _ => Nat → Option (Nat × Nat × Nat)) := ⟨Ren.f⟩

mutual
def VR (ρ : Ren) : AV → Value → Prop
  | .any, _ => True
  | .val v, cv => cv = v
  | .ptr b o, cv => ∃ cb co cc, ρ b = some (cb, co, cc) ∧ cv = .pointer (some ⟨cb, co + o, none⟩)
  | .elt b o i w f, cv => ∃ cb co cc, ρ b = some (cb, co, cc) ∧ cv = .pointer (some ⟨cb, co + (o + i * w + f), none⟩)
  | .slc b o n (.exact c), cv => (∃ cb co cc, ρ b = some (cb, co, cc) ∧ n ≤ c ∧ cv = .slice (some ⟨cb, co + o, none⟩) n c) ∨ (n = 0 ∧ c = 0 ∧ ∃ a, cv = .slice a 0 0)
  | .slc b o n .unk, cv => (∃ cb co cc c', ρ b = some (cb, co, cc) ∧ n ≤ c' ∧ (co + o = 0 → c' = cc) ∧ cv = .slice (some ⟨cb, co + o, none⟩) n c') ∨ (n = 0 ∧ ∃ a, cv = .slice a 0 0)
  | .slc b o n .low, cv => (∃ cb co cc c', ρ b = some (cb, co, cc) ∧ n ≤ c' ∧ cv = .slice (some ⟨cb, co + o, none⟩) n c') ∨ (n = 0 ∧ ∃ a, cv = .slice a 0 0)
  | .fn f fs cs, cv => ∃ fs' cs', cv = .func f fs' cs' ∧ VRs ρ fs fs'.toList ∧ VRs ρ cs cs'.toList
  | .agg cs, cv => ∃ cs', cv = .agg cs' ∧ VRs ρ cs cs'.toList
  | .tup vs, cv => ∃ vs', cv = .tuple vs' ∧ VRs ρ vs vs'.toList
  | .ifc t v, cv => ∃ v', cv = .iface t v' ∧ VR ρ v v'
def VRs (ρ : Ren) : List AV → List Value → Prop
  | [], [] => True
  | a :: as, v :: vs => VR ρ a v ∧ VRs ρ as vs
  | [], _ :: _ => False
  | _ :: _, [] => False
end

structure Ren.le (ρ ρ' : Ren) : Prop where
  at_ : ∀ b c, ρ b = some c → ρ' b = some c
  base : ρ'.base = ρ.base
theorem Ren.le_refl (ρ : Ren) : ρ.le ρ := ⟨fun _ _ h => h, rfl⟩
theorem Ren.le_trans {a b c : Ren} (h : a.le b) (k : b.le c) : a.le c := ⟨fun i x hx => k.at_ i x (h.at_ i x hx), k.base.trans h.base⟩

mutual
theorem VR.mono {ρ ρ' : Ren} (hle : ρ.le ρ') : ∀ (v : AV) (cv : Value), VR ρ v cv → VR ρ' v cv
  | .any, _, _ => by simp [VR]
  | .val v, cv, h => by simpa [VR] using h
  | .ptr b o, cv, h => by
    simp only [VR] at *
    obtain ⟨cb, co, cc, h1, h2⟩ := h
    exact ⟨cb, co, cc, hle.at_ _ _ h1, h2⟩
  | .elt b o i w f, cv, h => by
    simp only [VR] at *
    obtain ⟨cb, co, cc, h1, h2⟩ := h
    exact ⟨cb, co, cc, hle.at_ _ _ h1, h2⟩
  | .slc b o n (.exact c), cv, h => by
    simp only [VR] at *
    rcases h with ⟨cb, co, cc, h1, h2⟩ | h
    · exact .inl ⟨cb, co, cc, hle.at_ _ _ h1, h2⟩
    · exact .inr h
  | .slc b o n .unk, cv, h => by
    simp only [VR] at *
    rcases h with ⟨cb, co, cc, c', h1, h2⟩ | h
    · exact .inl ⟨cb, co, cc, c', hle.at_ _ _ h1, h2⟩
    · exact .inr h
  | .slc b o n .low, cv, h => by
    simp only [VR] at *
    rcases h with ⟨cb, co, cc, c', h1, h2⟩ | h
    · exact .inl ⟨cb, co, cc, c', hle.at_ _ _ h1, h2⟩
    · exact .inr h
  | .fn f fs cs, cv, h => by
    simp only [VR] at *
    obtain ⟨fs', cs', h1, h2, h3⟩ := h
    exact ⟨fs', cs', h1, VRs.mono hle _ _ h2, VRs.mono hle _ _ h3⟩
  | .agg cs, cv, h => by
    simp only [VR] at *
    obtain ⟨cs', h1, h2⟩ := h
    exact ⟨cs', h1, VRs.mono hle _ _ h2⟩
  | .tup cs, cv, h => by
    simp only [VR] at *
    obtain ⟨cs', h1, h2⟩ := h
    exact ⟨cs', h1, VRs.mono hle _ _ h2⟩
  | .ifc t v, cv, h => by
    simp only [VR] at *
    obtain ⟨v', h1, h2⟩ := h
    exact ⟨v', h1, VR.mono hle _ _ h2⟩
theorem VRs.mono {ρ ρ' : Ren} (hle : ρ.le ρ') : ∀ (vs : List AV) (cvs : List Value), VRs ρ vs cvs → VRs ρ' vs cvs
  | [], [], _ => by simp [VRs]
  | a :: as, v :: vs, h => by
    simp only [VRs] at *
    exact ⟨VR.mono hle _ _ h.1, VRs.mono hle _ _ h.2⟩
  | [], _ :: _, h => by simp [VRs] at h
  | _ :: _, [], h => by simp [VRs] at h
end

theorem VR.slc_cases {ρ : Ren} {b o n : Nat} {c : Cap} {cv : Value} (h : VR ρ (.slc b o n c) cv) : (∃ cb co cc c', ρ b = some (cb, co, cc) ∧ n ≤ c' ∧ cv = .slice (some ⟨cb, co + o, none⟩) n c') ∨ (n = 0 ∧ ∃ a, cv = .slice a 0 0) := by
  cases c <;> simp only [VR] at h
  · rcases h with ⟨cb, co, cc, h1, h2, h3⟩ | ⟨h1, _, h2⟩
    · exact .inl ⟨cb, co, cc, _, h1, h2, h3⟩
    · exact .inr ⟨h1, h2⟩
  · rcases h with ⟨cb, co, cc, c', h1, h2, _, h3⟩ | h
    · exact .inl ⟨cb, co, cc, _, h1, h2, h3⟩
    · exact .inr h
  · exact h

theorem VRs.length {ρ : Ren} : ∀ {as : List AV} {vs : List Value}, VRs ρ as vs → as.length = vs.length
  | [], [], _ => rfl
  | a :: as, v :: vs, h => by simp only [VRs] at h; simp [VRs.length h.2]
  | [], _ :: _, h => by simp [VRs] at h
  | _ :: _, [], h => by simp [VRs] at h

theorem VRs.get {ρ : Ren} : ∀ {as : List AV} {vs : List Value} (h : VRs ρ as vs) (i : Nat) (a : AV), as[i]? = some a → ∃ v, vs[i]? = some v ∧ VR ρ a v
  | [], [], _, i, a, ha => by simp at ha
  | a :: as, v :: vs, h, 0, x, ha => by simp only [VRs] at h; simp at ha; subst ha; exact ⟨v, rfl, h.1⟩
  | a :: as, v :: vs, h, i + 1, x, ha => by simp only [VRs] at h; simpa using VRs.get h.2 i x (by simpa using ha)
  | [], _ :: _, h, _, _, _ => by simp [VRs] at h
  | _ :: _, [], h, _, _, _ => by simp [VRs] at h

theorem VRs.of_get {ρ : Ren} : ∀ {as : List AV} {vs : List Value}, as.length = vs.length → (∀ (i : Nat) (a : AV), as[i]? = some a → ∃ v, vs[i]? = some v ∧ VR ρ a v) → VRs ρ as vs
  | [], [], _, _ => by simp [VRs]
  | a :: as, v :: vs, hl, h => by
    simp only [VRs]
    refine ⟨?_, VRs.of_get (by simpa using hl) fun i x hx => by simpa using h (i + 1) x (by simpa using hx)⟩
    obtain ⟨v', h1, h2⟩ := h 0 a rfl
    simp at h1; subst h1; exact h2
  | [], _ :: _, hl, _ => by simp at hl
  | _ :: _, [], hl, _ => by simp at hl

theorem VRs.set {ρ : Ren} : ∀ {as : List AV} {vs : List Value} (h : VRs ρ as vs) (i : Nat) {a : AV} {v : Value}, VR ρ a v → VRs ρ (as.set i a) (vs.set i v)
  | [], [], _, _, _, _, _ => by simp [VRs]
  | a :: as, v :: vs, h, 0, _, _, hv => by simp only [VRs, List.set] at *; exact ⟨hv, h.2⟩
  | a :: as, v :: vs, h, i + 1, _, _, hv => by simp only [VRs, List.set] at *; exact ⟨h.1, VRs.set h.2 i hv⟩
  | [], _ :: _, h, _, _, _, _ => by simp [VRs] at h
  | _ :: _, [], h, _, _, _, _ => by simp [VRs] at h

theorem VRs.append {ρ : Ren} : ∀ {as : List AV} {vs : List Value} {bs : List AV} {us : List Value}, VRs ρ as vs → VRs ρ bs us → VRs ρ (as ++ bs) (vs ++ us)
  | [], [], _, _, _, h => h
  | a :: as, v :: vs, _, _, h, k => by simp only [VRs, List.cons_append] at *; exact ⟨h.1, VRs.append h.2 k⟩
  | [], _ :: _, _, _, h, _ => by simp [VRs] at h
  | _ :: _, [], _, _, h, _ => by simp [VRs] at h

theorem VRs.take {ρ : Ren} : ∀ {as : List AV} {vs : List Value} (h : VRs ρ as vs) (n : Nat), VRs ρ (as.take n) (vs.take n)
  | [], [], _, _ => by simp [VRs]
  | a :: as, v :: vs, h, 0 => by simp [VRs]
  | a :: as, v :: vs, h, n + 1 => by simp only [VRs, List.take_succ_cons] at *; exact ⟨h.1, VRs.take h.2 n⟩
  | [], _ :: _, h, _ => by simp [VRs] at h
  | _ :: _, [], h, _ => by simp [VRs] at h

theorem VRs.drop {ρ : Ren} : ∀ {as : List AV} {vs : List Value} (h : VRs ρ as vs) (n : Nat), VRs ρ (as.drop n) (vs.drop n)
  | [], [], _, _ => by simp [VRs]
  | a :: as, v :: vs, h, 0 => by simpa using h
  | a :: as, v :: vs, h, n + 1 => by simp only [VRs, List.drop_succ_cons] at *; exact VRs.drop h.2 n
  | [], _ :: _, h, _ => by simp [VRs] at h
  | _ :: _, [], h, _ => by simp [VRs] at h

theorem VRs.vals {ρ : Ren} : ∀ (l : List Value), VRs ρ (l.map .val) l
  | [] => by simp [VRs]
  | v :: l => by simp only [List.map_cons, VRs, VR]; exact ⟨trivial, VRs.vals l⟩

theorem VRs.replicate {ρ : Ren} {a : AV} {v : Value} (h : VR ρ a v) : ∀ n, VRs ρ (List.replicate n a) (List.replicate n v)
  | 0 => by simp [VRs]
  | n + 1 => by simp only [List.replicate_succ, VRs]; exact ⟨h, VRs.replicate h n⟩

/-! ### Blocks and heaps -/
inductive Cells where
  | lit (l : List AV)
  | sym (l : List Value)
  /-- Slices of what lay there long ago, each with its cells. -/
  | rows (l : List (List Value))
  /-- A slice's parts, all of one shape. -/
  | arr (s : Sh) (l : List s.T)
  /-- Slices of parts of one shape. -/
  | arrs (s : Sh) (l : List (List s.T))
  deriving Inhabited
def Cells.len : Cells → Nat
  | .lit l => l.length
  | .sym l => l.length
  | .rows l => l.length
  | .arr s l => (s.flatl l).length
  | .arrs s l => l.length
structure Blk where
  cells : Cells
  rw : Bool
  grow : Option Nat := none
  deriving Inhabited
inductive Ent where
  | free
  | dead
  | live (b : Blk)
  deriving Inhabited
abbrev Heap := List Ent
def Heap.get (h : Heap) (b : Nat) : Ent := h.getD b .free

/-- A block of which something must lie in memory: it has cells, or room for an append. -/
def Blk.solid (b : Blk) (c : Nat × Nat × Nat) : Prop := 0 < b.cells.len ∨ (b.rw = true ∧ 0 < c.2.2)

def RowIn (W : World) (cv : Value) (r : List Value) : Prop :=
  (r = [] ∧ ∃ a, cv = .slice a 0 0) ∨ ∃ b o c, cv = .slice (some ⟨b, o, none⟩) r.length c ∧ r.length ≤ c ∧ ∀ (j : Nat) (v : Value), r[j]? = some v → W.cell? ⟨b, o + j, none⟩ = some v

def CellsAt (ρ : Ren) (w : World) (cb co : Nat) : Cells → Prop
  | .lit l => ∀ i v, l[i]? = some v → ∃ cv, w.cell? ⟨cb, co + i, none⟩ = some cv ∧ VR ρ v cv
  | .sym l => ∀ i v, l[i]? = some v → w.cell? ⟨cb, co + i, none⟩ = some v
  | .rows l => ∀ i r, l[i]? = some r → ∃ cv, w.cell? ⟨cb, co + i, none⟩ = some cv ∧ RowIn ρ.base cv r
  | .arr s l => ∀ i v, (s.flatl l)[i]? = some v → w.cell? ⟨cb, co + i, none⟩ = some v
  | .arrs s l => ∀ i r, l[i]? = some r → ∃ cv, w.cell? ⟨cb, co + i, none⟩ = some cv ∧ RowIn ρ.base cv (s.flatl r)

def OwnAt (w : World) (cb cc : Nat) (blk : Blk) : Prop :=
  ∃ cs e, w.heap[cb]? = some (.cells cs e (0, 0)) ∧ blk.cells.len ≤ cs.size ∧ (∀ sz, blk.grow = some sz → cs.size = cc * sz)

structure Sim (ρ : Ren) (h : Heap) (w : World) : Prop where
  some_ : ∀ b blk, h.get b = .live blk → ∃ c, ρ b = some c
  cells : ∀ b blk c, h.get b = .live blk → ρ b = some c → CellsAt ρ w c.1 c.2.1 blk.cells
  inside : ∀ b blk c, h.get b = .live blk → ρ b = some c → blk.solid c → c.1 < w.heap.size
  own : ∀ b blk c, h.get b = .live blk → ρ b = some c → blk.rw = true → blk.solid c → c.2.1 = 0 ∧ OwnAt w c.1 c.2.2 blk
  apart : ∀ b b' blk blk' c c', h.get b = .live blk → h.get b' = .live blk' → b ≠ b' → ρ b = some c → ρ b' = some c' → blk.rw = true → blk.solid c → blk'.solid c' → c.1 ≠ c'.1
  dom : ∀ b, h.get b = .free → ρ b = none
  baseLe : ρ.base.heap.size ≤ w.heap.size
  old : ∀ i, i < ρ.base.heap.size → w.heap[i]? = ρ.base.heap[i]?
  above : ∀ b blk c, h.get b = .live blk → ρ b = some c → blk.rw = true → blk.solid c → ρ.base.heap.size ≤ c.1

structure Ctx where
  n0 : Nat
  ρ0 : Ren
  h0 : Heap
  w0 : World
def Ctx.owned (Γ : Ctx) (i : Nat) : Prop := ∃ b blk c, b < Γ.n0 ∧ Γ.h0.get b = .live blk ∧ blk.rw = true ∧ Γ.ρ0 b = some c ∧ blk.solid c ∧ c.1 = i

structure Inv (Γ : Ctx) (ρ : Ren) (h : Heap) (w : World) : Prop where
  sim : Sim ρ h w
  agree : ∀ b, b < Γ.n0 → ρ b = Γ.ρ0 b
  sameBase : ρ.base = Γ.ρ0.base
  os : w.os = Γ.w0.os
  tape : w.tape = Γ.w0.tape
  output : w.output = Γ.w0.output
  size : Γ.w0.heap.size ≤ w.heap.size
  keep : ∀ i, i < Γ.w0.heap.size → ¬ Γ.owned i → w.heap[i]? = Γ.w0.heap[i]?
  fresh : ∀ b blk c, h.get b = .live blk → ρ b = some c → blk.rw = true → blk.solid c → Γ.w0.heap.size ≤ c.1 ∨ Γ.owned c.1

end Go.Ab
