/- An engine that names no program: what code does to what memory shows, evaluated over abstract values and an abstract heap, and that it is so. -/
import Derived.Orders
import Derived.KernelRfl
import Derived.Laws.Cells
import Derived.Laws.CopyRow
import Derived.Laws.World
import Derived.OrdersIn
set_option linter.unusedVariables false
set_option linter.unusedSimpArgs false
namespace Go.Ab
inductive Sh where
  | int (k : IntKind)
  | bool
  | str
  | st (l : List Sh)
  | sl (e : Sh)
  | rows (e : Sh)
mutual
@[reducible] def Sh.T : Sh → Type
  | .int _ => Int
  | .bool => Bool
  | .str => ByteArray
  | .st l => Sh.Ts l
  | .sl e => List (Sh.T e)
  | .rows e => List (List (Sh.T e))
@[reducible] def Sh.Ts : List Sh → Type
  | [] => Unit
  | s :: l => Sh.T s × Sh.Ts l
end
mutual
def Sh.enc : (s : Sh) → s.T → List Value
  | .int k, x => [.int k x]
  | .bool, b => [.bool b]
  | .str, s => [.string s]
  | .st l, x => Sh.encs l x
  | .sl _, _ => []
  | .rows _, _ => []
def Sh.encs : (l : List Sh) → Sh.Ts l → List Value
  | [], _ => []
  | s :: l, x => Sh.enc s x.1 ++ Sh.encs l x.2
end
mutual
def Sh.ok : (s : Sh) → s.T → Prop
  | .int k, x => k.min ≤ x ∧ x ≤ k.max
  | .bool, _ => True
  | .str, s => s.size ≤ 9223372036854775807
  | .st l, x => Sh.oks l x
  | .sl e, l => (∀ y ∈ l, Sh.ok e y) ∧ l.length ≤ 9223372036854775807
  | .rows e, l => (∀ r ∈ l, (∀ y ∈ r, Sh.ok e y) ∧ r.length ≤ 9223372036854775807) ∧ l.length ≤ 9223372036854775807
def Sh.oks : (l : List Sh) → Sh.Ts l → Prop
  | [], _ => True
  | s :: l, x => Sh.ok s x.1 ∧ Sh.oks l x.2
end
mutual
def Sh.w : Sh → Nat
  | .int _ => 1
  | .bool => 1
  | .str => 1
  | .st l => Sh.ws l
  | .sl _ => 1
  | .rows _ => 1
def Sh.ws : List Sh → Nat
  | [] => 0
  | s :: l => Sh.w s + Sh.ws l
end
mutual
def Sh.flat : Sh → Bool
  | .int _ => true
  | .bool => true
  | .str => true
  | .st l => Sh.flats l
  | .sl _ => false
  | .rows _ => false
def Sh.flats : List Sh → Bool
  | [] => true
  | s :: l => Sh.flat s && Sh.flats l
end
mutual
theorem enc_length : ∀ (s : Sh) (x : s.T), s.flat = true → (s.enc x).length = s.w
  | .int k, x, _ => rfl
  | .bool, x, _ => rfl
  | .str, x, _ => rfl
  | .st l, x, h => by simp only [Sh.flat] at h; simpa [Sh.enc, Sh.w] using encs_length l x h
  | .sl _, _, h => by simp [Sh.flat] at h
  | .rows _, _, h => by simp [Sh.flat] at h
theorem encs_length : ∀ (l : List Sh) (x : Sh.Ts l), Sh.flats l = true → (Sh.encs l x).length = Sh.ws l
  | [], _, _ => rfl
  | s :: l, x, h => by
    simp only [Sh.flats, Bool.and_eq_true] at h
    simp [Sh.encs, Sh.ws, enc_length s x.1 h.1, encs_length l x.2 h.2]
end
def Sh.flatl (s : Sh) (l : List s.T) : List Value := l.flatMap s.enc
theorem flatl_length (s : Sh) (h : s.flat = true) : ∀ l : List s.T, (s.flatl l).length = l.length * s.w
  | [] => by simp [Sh.flatl]
  | x :: l => by
    have := flatl_length s h l
    simp only [Sh.flatl] at this ⊢
    rw [List.flatMap_cons, List.length_append, this, enc_length s x h, List.length_cons, Nat.add_mul, Nat.one_mul, Nat.add_comm]
end Go.Ab
namespace Go.Ab
inductive Cap where
  | exact (n : Nat)
  | unk
  | low
  | part
  /-- Not nil. -/
  | nn
inductive AV where
  | any
  | val (v : Value)
  | ptr (b o : Nat)
  /-- A pointer into a block of equal parts: from o on, part i of w cells each, its cell f. -/
  | elt (b o i w f : Nat)
  | slc (b o n : Nat) (c : Cap)
  | fn (f : Fn) (first captured : List AV)
  | agg (cells : List AV)
  | tup (vs : List AV)
  | ifc (t : TypeId) (v : AV)
  deriving Inhabited
structure Ren where
  f : Nat → Option (Nat × Nat × Nat)
  /-- The world of long ago: what lay there is never written. -/
  base : World
instance : CoeFun Ren (fun _ => Nat → Option (Nat × Nat × Nat)) := ⟨Ren.f⟩
def fnAt (W : World) : Fn → Fn
  | .yield _ => .yield W.drawn
  | f => f
mutual
def VR (ρ : Ren) : AV → Value → Prop
  | .any, _ => True
  | .val v, cv => cv = v
  | .ptr b o, cv => ∃ cb co cc, ρ b = some (cb, co, cc) ∧ cv = .pointer (some ⟨cb, co + o, none⟩)
  | .elt b o i w f, cv => ∃ cb co cc, ρ b = some (cb, co, cc) ∧ cv = .pointer (some ⟨cb, co + (o + i * w + f), none⟩)
  | .slc b o n (.exact c), cv => (∃ cb co cc, ρ b = some (cb, co, cc) ∧ n ≤ c ∧ cv = .slice (some ⟨cb, co + o, none⟩) n c) ∨ (n = 0 ∧ c = 0 ∧ ∃ a, cv = .slice a 0 0)
  | .slc b o n .unk, cv => (∃ cb co cc c', ρ b = some (cb, co, cc) ∧ n ≤ c' ∧ (co + o = 0 ∧ c' = cc) ∧ cv = .slice (some ⟨cb, co + o, none⟩) n c') ∨ (n = 0 ∧ ∃ a, cv = .slice a 0 0)
  | .slc b o n .low, cv => (∃ cb co cc c', ρ b = some (cb, co, cc) ∧ n ≤ c' ∧ cv = .slice (some ⟨cb, co + o, none⟩) n c') ∨ (n = 0 ∧ ∃ a, cv = .slice a 0 0)
  | .slc b o n .part, cv => (∃ cb co cc c', ρ b = some (cb, co, cc) ∧ n ≤ c' ∧ cv = .slice (some ⟨cb, co + o, none⟩) n c') ∨ (n = 0 ∧ ∃ a, cv = .slice a 0 0)
  | .slc b o n .nn, cv => (∃ cb co cc c', ρ b = some (cb, co, cc) ∧ n ≤ c' ∧ cv = .slice (some ⟨cb, co + o, none⟩) n c') ∨ (n = 0 ∧ ∃ a, cv = .slice (some a) 0 0)
  | .fn f fs cs, cv => ∃ fs' cs', cv = .func (fnAt ρ.base f) fs' cs' ∧ VRs ρ fs fs'.toList ∧ VRs ρ cs cs'.toList
  | .agg cs, cv => ∃ cs', cv = .agg cs' ∧ VRs ρ cs cs'.toList
  | .tup vs, cv => ∃ vs', cv = .tuple vs' ∧ VRs ρ vs vs'.toList
  | .ifc t v, cv => ∃ v', cv = .iface t v' ∧ VR ρ v v'
def VRs (ρ : Ren) : List AV → List Value → Prop
  | [], [] => True
  | a :: as, v :: vs => VR ρ a v ∧ VRs ρ as vs
  | [], _ :: _ => False
  | _ :: _, [] => False
end
structure Ren.le (ρ ρ' : Ren) : Prop where
  at_ : ∀ b c, ρ b = some c → ρ' b = some c
  base : ρ'.base = ρ.base
theorem Ren.le_refl (ρ : Ren) : ρ.le ρ := ⟨fun _ _ h => h, rfl⟩
theorem Ren.le_trans {a b c : Ren} (h : a.le b) (k : b.le c) : a.le c := ⟨fun i x hx => k.at_ i x (h.at_ i x hx), k.base.trans h.base⟩
mutual
theorem VR.mono {ρ ρ' : Ren} (hle : ρ.le ρ') : ∀ (v : AV) (cv : Value), VR ρ v cv → VR ρ' v cv
  | .any, _, _ => by simp [VR]
  | .val v, cv, h => by simpa [VR] using h
  | .ptr b o, cv, h => by
    simp only [VR] at *
    obtain ⟨cb, co, cc, h1, h2⟩ := h
    exact ⟨cb, co, cc, hle.at_ _ _ h1, h2⟩
  | .elt b o i w f, cv, h => by
    simp only [VR] at *
    obtain ⟨cb, co, cc, h1, h2⟩ := h
    exact ⟨cb, co, cc, hle.at_ _ _ h1, h2⟩
  | .slc b o n (.exact c), cv, h => by
    simp only [VR] at *
    rcases h with ⟨cb, co, cc, h1, h2⟩ | h
    · exact .inl ⟨cb, co, cc, hle.at_ _ _ h1, h2⟩
    · exact .inr h
  | .slc b o n .unk, cv, h => by
    simp only [VR] at *
    rcases h with ⟨cb, co, cc, c', h1, h2⟩ | h
    · exact .inl ⟨cb, co, cc, c', hle.at_ _ _ h1, h2⟩
    · exact .inr h
  | .slc b o n .low, cv, h => by
    simp only [VR] at *
    rcases h with ⟨cb, co, cc, c', h1, h2⟩ | h
    · exact .inl ⟨cb, co, cc, c', hle.at_ _ _ h1, h2⟩
    · exact .inr h
  | .slc b o n .part, cv, h => by
    simp only [VR] at *
    rcases h with ⟨cb, co, cc, c', h1, h2⟩ | h
    · exact .inl ⟨cb, co, cc, c', hle.at_ _ _ h1, h2⟩
    · exact .inr h
  | .slc b o n .nn, cv, h => by
    simp only [VR] at *
    rcases h with ⟨cb, co, cc, c', h1, h2⟩ | h
    · exact .inl ⟨cb, co, cc, c', hle.at_ _ _ h1, h2⟩
    · exact .inr h
  | .fn f fs cs, cv, h => by
    simp only [VR] at *
    obtain ⟨fs', cs', h1, h2, h3⟩ := h
    exact ⟨fs', cs', by rw [h1, hle.base], VRs.mono hle _ _ h2, VRs.mono hle _ _ h3⟩
  | .agg cs, cv, h => by
    simp only [VR] at *
    obtain ⟨cs', h1, h2⟩ := h
    exact ⟨cs', h1, VRs.mono hle _ _ h2⟩
  | .tup cs, cv, h => by
    simp only [VR] at *
    obtain ⟨cs', h1, h2⟩ := h
    exact ⟨cs', h1, VRs.mono hle _ _ h2⟩
  | .ifc t v, cv, h => by
    simp only [VR] at *
    obtain ⟨v', h1, h2⟩ := h
    exact ⟨v', h1, VR.mono hle _ _ h2⟩
theorem VRs.mono {ρ ρ' : Ren} (hle : ρ.le ρ') : ∀ (vs : List AV) (cvs : List Value), VRs ρ vs cvs → VRs ρ' vs cvs
  | [], [], _ => by simp [VRs]
  | a :: as, v :: vs, h => by
    simp only [VRs] at *
    exact ⟨VR.mono hle _ _ h.1, VRs.mono hle _ _ h.2⟩
  | [], _ :: _, h => by simp [VRs] at h
  | _ :: _, [], h => by simp [VRs] at h
end
theorem VR.slc_cases {ρ : Ren} {b o n : Nat} {c : Cap} {cv : Value} (h : VR ρ (.slc b o n c) cv) : (∃ cb co cc c', ρ b = some (cb, co, cc) ∧ n ≤ c' ∧ cv = .slice (some ⟨cb, co + o, none⟩) n c') ∨ (n = 0 ∧ ∃ a, cv = .slice a 0 0) := by
  cases c <;> simp only [VR] at h
  · rcases h with ⟨cb, co, cc, h1, h2, h3⟩ | ⟨h1, _, h2⟩
    · exact .inl ⟨cb, co, cc, _, h1, h2, h3⟩
    · exact .inr ⟨h1, h2⟩
  · rcases h with ⟨cb, co, cc, c', h1, h2, _, h3⟩ | h
    · exact .inl ⟨cb, co, cc, _, h1, h2, h3⟩
    · exact .inr h
  · exact h
  · exact h
  · rcases h with h | ⟨h1, a, h2⟩
    · exact .inl h
    · exact .inr ⟨h1, some a, h2⟩
theorem VRs.length {ρ : Ren} : ∀ {as : List AV} {vs : List Value}, VRs ρ as vs → as.length = vs.length
  | [], [], _ => rfl
  | a :: as, v :: vs, h => by simp only [VRs] at h; simp [VRs.length h.2]
  | [], _ :: _, h => by simp [VRs] at h
  | _ :: _, [], h => by simp [VRs] at h
theorem VRs.get {ρ : Ren} : ∀ {as : List AV} {vs : List Value} (h : VRs ρ as vs) (i : Nat) (a : AV), as[i]? = some a → ∃ v, vs[i]? = some v ∧ VR ρ a v
  | [], [], _, i, a, ha => by simp at ha
  | a :: as, v :: vs, h, 0, x, ha => by simp only [VRs] at h; simp at ha; subst ha; exact ⟨v, rfl, h.1⟩
  | a :: as, v :: vs, h, i + 1, x, ha => by simp only [VRs] at h; simpa using VRs.get h.2 i x (by simpa using ha)
  | [], _ :: _, h, _, _, _ => by simp [VRs] at h
  | _ :: _, [], h, _, _, _ => by simp [VRs] at h
theorem VRs.of_get {ρ : Ren} : ∀ {as : List AV} {vs : List Value}, as.length = vs.length → (∀ (i : Nat) (a : AV), as[i]? = some a → ∃ v, vs[i]? = some v ∧ VR ρ a v) → VRs ρ as vs
  | [], [], _, _ => by simp [VRs]
  | a :: as, v :: vs, hl, h => by
    simp only [VRs]
    refine ⟨?_, VRs.of_get (by simpa using hl) fun i x hx => by simpa using h (i + 1) x (by simpa using hx)⟩
    obtain ⟨v', h1, h2⟩ := h 0 a rfl
    simp at h1; subst h1; exact h2
  | [], _ :: _, hl, _ => by simp at hl
  | _ :: _, [], hl, _ => by simp at hl
theorem VRs.set {ρ : Ren} : ∀ {as : List AV} {vs : List Value} (h : VRs ρ as vs) (i : Nat) {a : AV} {v : Value}, VR ρ a v → VRs ρ (as.set i a) (vs.set i v)
  | [], [], _, _, _, _, _ => by simp [VRs]
  | a :: as, v :: vs, h, 0, _, _, hv => by simp only [VRs, List.set] at *; exact ⟨hv, h.2⟩
  | a :: as, v :: vs, h, i + 1, _, _, hv => by simp only [VRs, List.set] at *; exact ⟨h.1, VRs.set h.2 i hv⟩
  | [], _ :: _, h, _, _, _, _ => by simp [VRs] at h
  | _ :: _, [], h, _, _, _, _ => by simp [VRs] at h
theorem VRs.append {ρ : Ren} : ∀ {as : List AV} {vs : List Value} {bs : List AV} {us : List Value}, VRs ρ as vs → VRs ρ bs us → VRs ρ (as ++ bs) (vs ++ us)
  | [], [], _, _, _, h => h
  | a :: as, v :: vs, _, _, h, k => by simp only [VRs, List.cons_append] at *; exact ⟨h.1, VRs.append h.2 k⟩
  | [], _ :: _, _, _, h, _ => by simp [VRs] at h
  | _ :: _, [], _, _, h, _ => by simp [VRs] at h
theorem VRs.take {ρ : Ren} : ∀ {as : List AV} {vs : List Value} (h : VRs ρ as vs) (n : Nat), VRs ρ (as.take n) (vs.take n)
  | [], [], _, _ => by simp [VRs]
  | a :: as, v :: vs, h, 0 => by simp [VRs]
  | a :: as, v :: vs, h, n + 1 => by simp only [VRs, List.take_succ_cons] at *; exact ⟨h.1, VRs.take h.2 n⟩
  | [], _ :: _, h, _ => by simp [VRs] at h
  | _ :: _, [], h, _ => by simp [VRs] at h
theorem VRs.drop {ρ : Ren} : ∀ {as : List AV} {vs : List Value} (h : VRs ρ as vs) (n : Nat), VRs ρ (as.drop n) (vs.drop n)
  | [], [], _, _ => by simp [VRs]
  | a :: as, v :: vs, h, 0 => by simpa using h
  | a :: as, v :: vs, h, n + 1 => by simp only [VRs, List.drop_succ_cons] at *; exact VRs.drop h.2 n
  | [], _ :: _, h, _ => by simp [VRs] at h
  | _ :: _, [], h, _ => by simp [VRs] at h
theorem VRs.vals {ρ : Ren} : ∀ (l : List Value), VRs ρ (l.map .val) l
  | [] => by simp [VRs]
  | v :: l => by simp only [List.map_cons, VRs, VR]; exact ⟨trivial, VRs.vals l⟩
theorem VRs.replicate {ρ : Ren} {a : AV} {v : Value} (h : VR ρ a v) : ∀ n, VRs ρ (List.replicate n a) (List.replicate n v)
  | 0 => by simp [VRs]
  | n + 1 => by simp only [List.replicate_succ, VRs]; exact ⟨h, VRs.replicate h n⟩
inductive Cells where
  | lit (l : List AV)
  | sym (l : List Value)
  /-- Slices of what lay there long ago, each with its cells. -/
  | rows (l : List (List Value))
  /-- A slice's parts, all of one shape. -/
  | arr (s : Sh) (l : List s.T)
  /-- Slices of parts of one shape. -/
  | arrs (s : Sh) (l : List (List s.T))
  deriving Inhabited
def Cells.len : Cells → Nat
  | .lit l => l.length
  | .sym l => l.length
  | .rows l => l.length
  | .arr s l => (s.flatl l).length
  | .arrs s l => l.length
structure Blk where
  cells : Cells
  rw : Bool
  grow : Option Nat := none
  deriving Inhabited
inductive Ent where
  | free
  | dead
  | live (b : Blk)
  deriving Inhabited
abbrev Heap := List Ent
def Heap.get (h : Heap) (b : Nat) : Ent := h.getD b .free
def Blk.solid (b : Blk) (c : Nat × Nat × Nat) : Prop := 0 < b.cells.len ∨ (b.rw = true ∧ 0 < c.2.2)
def RowIn (W : World) (cv : Value) (r : List Value) : Prop :=
  (r = [] ∧ ∃ a, cv = .slice a 0 0) ∨ ∃ b o c, cv = .slice (some ⟨b, o, none⟩) r.length c ∧ r.length ≤ c ∧ ∀ (j : Nat) (v : Value), r[j]? = some v → W.cell? ⟨b, o + j, none⟩ = some v
def CellsAt (ρ : Ren) (w : World) (cb co : Nat) : Cells → Prop
  | .lit l => ∀ i v, l[i]? = some v → ∃ cv, w.cell? ⟨cb, co + i, none⟩ = some cv ∧ VR ρ v cv
  | .sym l => ∀ i v, l[i]? = some v → w.cell? ⟨cb, co + i, none⟩ = some v
  | .rows l => ∀ i r, l[i]? = some r → ∃ cv, w.cell? ⟨cb, co + i, none⟩ = some cv ∧ RowIn ρ.base cv r
  | .arr s l => ∀ i v, (s.flatl l)[i]? = some v → w.cell? ⟨cb, co + i, none⟩ = some v
  | .arrs s l => ∀ i r, l[i]? = some r → ∃ cv, w.cell? ⟨cb, co + i, none⟩ = some cv ∧ RowIn ρ.base cv (s.flatl r)
def OwnAt (w : World) (cb cc : Nat) (blk : Blk) : Prop :=
  ∃ cs e, w.heap[cb]? = some (.cells cs e (0, 0)) ∧ blk.cells.len ≤ cs.size ∧ (∀ sz, blk.grow = some sz → cs.size = cc * sz)
structure Sim (ρ : Ren) (h : Heap) (w : World) : Prop where
  some_ : ∀ b blk, h.get b = .live blk → ∃ c, ρ b = some c
  cells : ∀ b blk c, h.get b = .live blk → ρ b = some c → CellsAt ρ w c.1 c.2.1 blk.cells
  inside : ∀ b blk c, h.get b = .live blk → ρ b = some c → blk.solid c → c.1 < w.heap.size
  own : ∀ b blk c, h.get b = .live blk → ρ b = some c → blk.rw = true → blk.solid c → c.2.1 = 0 ∧ OwnAt w c.1 c.2.2 blk
  apart : ∀ b b' blk blk' c c', h.get b = .live blk → h.get b' = .live blk' → b ≠ b' → ρ b = some c → ρ b' = some c' → blk.rw = true → blk.solid c → blk'.solid c' → c.1 ≠ c'.1
  dom : ∀ b, h.get b = .free → ρ b = none
  baseLe : ρ.base.heap.size ≤ w.heap.size
  old : ∀ i, i < ρ.base.heap.size → w.heap[i]? = ρ.base.heap[i]?
  above : ∀ b blk c, h.get b = .live blk → ρ b = some c → blk.rw = true → blk.solid c → ρ.base.heap.size ≤ c.1
structure Ctx where
  n0 : Nat
  ρ0 : Ren
  h0 : Heap
  w0 : World
def Ctx.owned (Γ : Ctx) (i : Nat) : Prop := ∃ b blk c, b < Γ.n0 ∧ Γ.h0.get b = .live blk ∧ blk.rw = true ∧ Γ.ρ0 b = some c ∧ blk.solid c ∧ c.1 = i
structure Inv (Γ : Ctx) (ρ : Ren) (h : Heap) (w : World) : Prop where
  sim : Sim ρ h w
  agree : ∀ b, b < Γ.n0 → ρ b = Γ.ρ0 b
  sameBase : ρ.base = Γ.ρ0.base
  os : w.os = Γ.w0.os
  tape : w.tape = Γ.w0.tape
  output : w.output = Γ.w0.output
  size : Γ.w0.heap.size ≤ w.heap.size
  keep : ∀ i, i < Γ.w0.heap.size → ¬ Γ.owned i → w.heap[i]? = Γ.w0.heap[i]?
  fresh : ∀ b blk c, h.get b = .live blk → ρ b = some c → blk.rw = true → blk.solid c → Γ.w0.heap.size ≤ c.1 ∨ Γ.owned c.1
end Go.Ab
namespace Go.Ab
def Heap.upd (h : Heap) (b : Nat) (e : Ent) : Heap :=
  if b < h.length then h.set b e else h ++ List.replicate (b - h.length) .free ++ [e]
theorem Heap.get_upd (h : Heap) (b : Nat) (e : Ent) (x : Nat) : (h.upd b e).get x = if x = b then e else h.get x := by
  unfold Heap.upd Heap.get
  split
  · rename_i hb
    simp only [List.getD_eq_getElem?_getD, List.getElem?_set]
    by_cases hx : b = x
    · subst hx; simp [hb]
    · rw [if_neg hx, if_neg (fun e => hx e.symm)]
  · rename_i hb
    simp only [List.getD_eq_getElem?_getD]
    by_cases hx : x = b
    · subst hx
      rw [if_pos rfl, List.append_assoc, List.getElem?_append_right (by omega), List.getElem?_append_right (by simp)]
      simp
    · rw [if_neg hx]
      by_cases h1 : x < h.length
      · rw [List.append_assoc, List.getElem?_append_left h1]
      · by_cases h2 : x < b
        · rw [List.append_assoc, List.getElem?_append_right (by omega), List.getElem?_append_left (by simp; omega), List.getElem?_replicate, if_pos (by omega), List.getElem?_eq_none (by omega)]
          rfl
        · rw [List.getElem?_eq_none (by simp; omega), List.getElem?_eq_none (by omega)]
def Heap.upds (h : Heap) : List (Nat × Ent) → Heap
  | [] => h
  | (b, e) :: l => (h.upd b e).upds l
theorem Sim.congr {ρ : Ren} {h h' : Heap} {w : World} (hs : Sim ρ h w) (he : ∀ b, h'.get b = h.get b) : Sim ρ h' w :=
  ⟨fun b blk hb => hs.some_ b blk (he b ▸ hb), fun b blk c hb => hs.cells b blk c (he b ▸ hb), fun b blk c hb => hs.inside b blk c (he b ▸ hb),
   fun b blk c hb => hs.own b blk c (he b ▸ hb), fun b b' blk blk' c c' hb hb' => hs.apart b b' blk blk' c c' (he b ▸ hb) (he b' ▸ hb'), fun b hb => hs.dom b (he b ▸ hb), hs.baseLe, hs.old, fun b blk c hb => hs.above b blk c (he b ▸ hb)⟩
theorem Inv.congr {Γ : Ctx} {ρ : Ren} {h h' : Heap} {w : World} (hI : Inv Γ ρ h w) (he : ∀ b, h'.get b = h.get b) : Inv Γ ρ h' w :=
  ⟨hI.sim.congr he, hI.agree, hI.sameBase, hI.os, hI.tape, hI.output, hI.size, hI.keep, fun b blk c hb => hI.fresh b blk c (he b ▸ hb)⟩
theorem CellsAt.of_cell {ρ : Ren} {w w' : World} {cb co : Nat} {cs : Cells} (h : CellsAt ρ w cb co cs) (hc : 0 < cs.len → ∀ o, w'.cell? ⟨cb, o, none⟩ = w.cell? ⟨cb, o, none⟩) : CellsAt ρ w' cb co cs := by
  cases cs with
  | lit l =>
    intro i v hi
    have hl : 0 < l.length := by
      rcases Nat.lt_or_ge i l.length with h' | h'
      · omega
      · simp [List.getElem?_eq_none h'] at hi
    obtain ⟨cv, h1, h2⟩ := h i v hi
    exact ⟨cv, by rw [hc hl]; exact h1, h2⟩
  | sym l =>
    intro i v hi
    have hl : 0 < l.length := by
      rcases Nat.lt_or_ge i l.length with h' | h'
      · omega
      · simp [List.getElem?_eq_none h'] at hi
    rw [hc hl]; exact h i v hi
  | rows l =>
    intro i v hi
    have hl : 0 < l.length := by
      rcases Nat.lt_or_ge i l.length with h' | h'
      · omega
      · simp [List.getElem?_eq_none h'] at hi
    obtain ⟨cv, h1, h2⟩ := h i v hi
    exact ⟨cv, by rw [hc hl]; exact h1, h2⟩
  | arr s l =>
    intro i v hi
    have hl : 0 < (s.flatl l).length := by
      rcases Nat.lt_or_ge i (s.flatl l).length with h' | h'
      · omega
      · simp [List.getElem?_eq_none h'] at hi
    rw [hc hl]; exact h i v hi
  | arrs s l =>
    intro i v hi
    have hl : 0 < l.length := by
      rcases Nat.lt_or_ge i l.length with h' | h'
      · omega
      · simp [List.getElem?_eq_none h'] at hi
    obtain ⟨cv, h1, h2⟩ := h i v hi
    exact ⟨cv, by rw [hc hl]; exact h1, h2⟩
theorem CellsAt.mono {ρ ρ' : Ren} {w : World} {cb co : Nat} {cs : Cells} (hle : ρ.le ρ') (h : CellsAt ρ w cb co cs) : CellsAt ρ' w cb co cs := by
  cases cs with
  | lit l => intro i v hi; obtain ⟨cv, h1, h2⟩ := h i v hi; exact ⟨cv, h1, VR.mono hle _ _ h2⟩
  | sym l => exact h
  | rows l => intro i v hi; obtain ⟨cv, h1, h2⟩ := h i v hi; exact ⟨cv, h1, by rw [hle.base]; exact h2⟩
  | arr s l => exact h
  | arrs s l => intro i v hi; obtain ⟨cv, h1, h2⟩ := h i v hi; exact ⟨cv, h1, by rw [hle.base]; exact h2⟩
theorem cell_of_heap {w w' : World} {cb : Nat} (h : w'.heap[cb]? = w.heap[cb]?) (o : Nat) : w'.cell? ⟨cb, o, none⟩ = w.cell? ⟨cb, o, none⟩ := by
  simp [World.cell?, h]
def Ren.put (ρ : Ren) (b : Nat) (c : Nat × Nat × Nat) : Ren := ⟨fun x => if x = b then some c else ρ x, ρ.base⟩
theorem Ren.le_put {ρ : Ren} {b : Nat} {c} (h : ρ b = none) : ρ.le (ρ.put b c) := by
  refine ⟨fun x y hx => ?_, rfl⟩
  unfold Ren.put
  simp only
  split
  · rename_i e; subst e; rw [h] at hx; cases hx
  · exact hx
theorem Sim.of_heap {ρ : Ren} {h : Heap} {w w' : World} (hs : Sim ρ h w) (hh : w'.heap = w.heap) : Sim ρ h w' := by
  have hc : ∀ cb o, w'.cell? ⟨cb, o, none⟩ = w.cell? ⟨cb, o, none⟩ := fun cb o => by simp [World.cell?, hh]
  refine ⟨hs.some_, fun b blk c hb hρ => (hs.cells b blk c hb hρ).of_cell fun _ o => hc _ o, fun b blk c hb hρ hso => by rw [hh]; exact hs.inside b blk c hb hρ hso, fun b blk c hb hρ hrw hso => ?_, hs.apart, hs.dom, by rw [hh]; exact hs.baseLe, fun i hi => by rw [hh]; exact hs.old i hi, hs.above⟩
  obtain ⟨h1, cs, e, h2, h3⟩ := hs.own b blk c hb hρ hrw hso
  exact ⟨h1, cs, e, by rw [hh]; exact h2, h3⟩
theorem Inv.of_heap {Γ : Ctx} {ρ : Ren} {h : Heap} {w w' : World} (hI : Inv Γ ρ h w) (hh : w'.heap = w.heap) (ho : w'.os = w.os) (ht : w'.tape = w.tape) (hu : w'.output = w.output) : Inv Γ ρ h w' :=
  ⟨hI.sim.of_heap hh, hI.agree, hI.sameBase, ho.trans hI.os, ht.trans hI.tape, hu.trans hI.output, by rw [hh]; exact hI.size, fun i hi hn => by rw [hh]; exact hI.keep i hi hn, hI.fresh⟩
theorem Inv.alloc {Γ : Ctx} {ρ : Ren} {h : Heap} {w w' : World} (hI : Inv Γ ρ h w) {new : Nat} (hn : Γ.n0 ≤ new) (hfree : h.get new = .free) (cs : Array Value) (e : TypeId) (cells : Cells) (grow : Option Nat) (cc : Nat)
    (hh : w'.heap = w.heap.push (.cells cs e (0, 0))) (ho : w'.os = w.os) (ht : w'.tape = w.tape) (hu : w'.output = w.output)
    (hcells : CellsAt ρ w' w.heap.size 0 cells) (hlen : cells.len ≤ cs.size) (hgrow : ∀ sz, grow = some sz → cs.size = cc * sz) :
    ρ.le (ρ.put new (w.heap.size, 0, cc)) ∧ Inv Γ (ρ.put new (w.heap.size, 0, cc)) (h.upd new (.live { cells, rw := true, grow })) w' := by
  have hnone := hI.sim.dom new hfree
  have hle := Ren.le_put (c := (w.heap.size, 0, cc)) hnone
  have hold : ∀ cb, cb < w.heap.size → w'.heap[cb]? = w.heap[cb]? := fun cb hcb => by rw [hh, Array.getElem?_push, if_neg (by omega)]
  have hnewb : w'.heap[w.heap.size]? = some (.cells cs e (0, 0)) := by rw [hh]; simp
  have hpn : (ρ.put new (w.heap.size, 0, cc)) new = some (w.heap.size, 0, cc) := by simp [Ren.put]
  have hpo : ∀ b, b ≠ new → (ρ.put new (w.heap.size, 0, cc)) b = ρ b := fun b hb => by simp [Ren.put, hb]
  have hgo : ∀ b, b ≠ new → (h.upd new (.live { cells, rw := true, grow })).get b = h.get b := fun b hb => by rw [Heap.get_upd, if_neg hb]
  have hgn : (h.upd new (.live { cells, rw := true, grow })).get new = .live { cells, rw := true, grow } := by rw [Heap.get_upd, if_pos rfl]
  refine ⟨hle, ⟨⟨?_, ?_, ?_, ?_, ?_, ?_, ?_, ?_, ?_⟩, ?_, hI.sameBase, ho.trans hI.os, ht.trans hI.tape, hu.trans hI.output, ?_, ?_, ?_⟩⟩
  · intro b blk hb
    by_cases hbn : b = new
    · subst hbn; exact ⟨_, hpn⟩
    · rw [hgo b hbn] at hb; rw [hpo b hbn]; exact hI.sim.some_ b blk hb
  · intro b blk c hb hc
    by_cases hbn : b = new
    · subst hbn
      rw [hgn] at hb; injection hb with hb; subst hb
      rw [hpn] at hc; injection hc with hc; subst hc
      exact hcells.mono hle
    · rw [hgo b hbn] at hb; rw [hpo b hbn] at hc
      refine ((hI.sim.cells b blk c hb hc).of_cell fun hpos o => cell_of_heap (hold _ ?_) o).mono hle
      exact hI.sim.inside b blk c hb hc (.inl hpos)
  · intro b blk c hb hc hso
    by_cases hbn : b = new
    · subst hbn
      rw [hpn] at hc; injection hc with hc; subst hc
      rw [hh]; simp
    · rw [hgo b hbn] at hb; rw [hpo b hbn] at hc
      have := hI.sim.inside b blk c hb hc hso
      rw [hh]; simp; omega
  · intro b blk c hb hc hrw hso
    by_cases hbn : b = new
    · subst hbn
      rw [hgn] at hb; injection hb with hb; subst hb
      rw [hpn] at hc; injection hc with hc; subst hc
      exact ⟨rfl, cs, e, hnewb, hlen, hgrow⟩
    · rw [hgo b hbn] at hb; rw [hpo b hbn] at hc
      obtain ⟨h1, cs', e', h2, h3⟩ := hI.sim.own b blk c hb hc hrw hso
      exact ⟨h1, cs', e', by rw [hold _ (hI.sim.inside b blk c hb hc hso)]; exact h2, h3⟩
  · intro b b' blk blk' c c' hb hb' hne hc hc' hrw hso hso'
    by_cases hbn : b = new
    · subst hbn
      have hb'n : b' ≠ b := fun e => hne e.symm
      rw [hpn] at hc; injection hc with hc; subst hc
      rw [hgo b' hb'n] at hb'; rw [hpo b' hb'n] at hc'
      have := hI.sim.inside b' blk' c' hb' hc' hso'
      simp; omega
    · by_cases hbn' : b' = new
      · subst hbn'
        rw [hpn] at hc'; injection hc' with hc'; subst hc'
        rw [hgo b hbn] at hb; rw [hpo b hbn] at hc
        have := hI.sim.inside b blk c hb hc hso
        simp; omega
      · rw [hgo b hbn] at hb; rw [hpo b hbn] at hc
        rw [hgo b' hbn'] at hb'; rw [hpo b' hbn'] at hc'
        exact hI.sim.apart b b' blk blk' c c' hb hb' hne hc hc' hrw hso hso'
  · intro b hb
    by_cases hbn : b = new
    · subst hbn; rw [hgn] at hb; cases hb
    · rw [hgo b hbn] at hb; rw [hpo b hbn]; exact hI.sim.dom b hb
  · show ρ.base.heap.size ≤ _
    rw [hh]; simp; have := hI.sim.baseLe; omega
  · intro i hi
    have hi : i < ρ.base.heap.size := hi
    rw [hold i (by have := hI.sim.baseLe; omega)]; exact hI.sim.old i hi
  · intro b blk c hb hc hrw hso
    show ρ.base.heap.size ≤ _
    by_cases hbn : b = new
    · subst hbn
      rw [hpn] at hc; injection hc with hc; subst hc
      exact hI.sim.baseLe
    · rw [hgo b hbn] at hb; rw [hpo b hbn] at hc
      exact hI.sim.above b blk c hb hc hrw hso
  · intro b hb
    rw [hpo b (by omega)]; exact hI.agree b hb
  · rw [hh]; simp; have := hI.size; omega
  · intro i hi hn'
    rw [hold i (by have := hI.size; omega)]; exact hI.keep i hi hn'
  · intro b blk c hb hc hrw hso
    by_cases hbn : b = new
    · subst hbn
      rw [hpn] at hc; injection hc with hc; subst hc
      exact .inl hI.size
    · rw [hgo b hbn] at hb; rw [hpo b hbn] at hc
      exact hI.fresh b blk c hb hc hrw hso
theorem Inv.addRo {Γ : Ctx} {ρ : Ren} {h : Heap} {w : World} (hI : Inv Γ ρ h w) {new : Nat} (hn : Γ.n0 ≤ new) (hfree : h.get new = .free) (r : List Value) (cb co : Nat) (hr : ∀ (j : Nat) (v : Value), r[j]? = some v → ρ.base.cell? ⟨cb, co + j, none⟩ = some v) :
    ρ.le (ρ.put new (cb, co, 0)) ∧ Inv Γ (ρ.put new (cb, co, 0)) (h.upd new (.live { cells := .sym r, rw := false })) w := by
  have hle := Ren.le_put (c := (cb, co, 0)) (hI.sim.dom new hfree)
  have hpn : (ρ.put new (cb, co, 0)) new = some (cb, co, 0) := by simp [Ren.put]
  have hpo : ∀ b, b ≠ new → (ρ.put new (cb, co, 0)) b = ρ b := fun b hb => by simp [Ren.put, hb]
  have hgo : ∀ b, b ≠ new → (h.upd new (.live { cells := .sym r, rw := false })).get b = h.get b := fun b hb => by rw [Heap.get_upd, if_neg hb]
  have hgn : (h.upd new (.live { cells := .sym r, rw := false })).get new = .live { cells := .sym r, rw := false } := by rw [Heap.get_upd, if_pos rfl]
  have hin : 0 < r.length → cb < ρ.base.heap.size := fun hpos => by
    have := hr 0 r[0] (List.getElem?_eq_getElem hpos)
    rcases Nat.lt_or_ge cb ρ.base.heap.size with h' | h'
    · exact h'
    · simp [World.cell?, Array.getElem?_eq_none h'] at this
  have solid0 : ∀ c, Blk.solid { cells := .sym r, rw := false } c → 0 < r.length := fun c hs => by
    rcases hs with hs | hs
    · exact hs
    · cases hs.1
  refine ⟨hle, ⟨⟨?_, ?_, ?_, ?_, ?_, ?_, hI.sim.baseLe, hI.sim.old, ?_⟩, ?_, hI.sameBase, hI.os, hI.tape, hI.output, hI.size, hI.keep, ?_⟩⟩
  · intro b blk hb
    by_cases hbn : b = new
    · subst hbn; exact ⟨_, hpn⟩
    · rw [hgo b hbn] at hb; rw [hpo b hbn]; exact hI.sim.some_ b blk hb
  · intro b blk c hb hc
    by_cases hbn : b = new
    · subst hbn
      rw [hgn] at hb; injection hb with hb; subst hb
      rw [hpn] at hc; injection hc with hc; subst hc
      intro j v hj
      have h1 := hr j v hj
      have h2 := hin (by
        rcases Nat.lt_or_ge j r.length with h' | h'
        · omega
        · simp [List.getElem?_eq_none h'] at hj)
      rw [← h1]
      simp [World.cell?, hI.sim.old cb h2]
    · rw [hgo b hbn] at hb; rw [hpo b hbn] at hc
      exact (hI.sim.cells b blk c hb hc).mono hle
  · intro b blk c hb hc hso
    by_cases hbn : b = new
    · subst hbn
      rw [hgn] at hb; injection hb with hb; subst hb
      rw [hpn] at hc; injection hc with hc; subst hc
      have := hin (solid0 _ hso)
      have := hI.sim.baseLe
      simp only; omega
    · rw [hgo b hbn] at hb; rw [hpo b hbn] at hc
      exact hI.sim.inside b blk c hb hc hso
  · intro b blk c hb hc hrw hso
    by_cases hbn : b = new
    · subst hbn
      rw [hgn] at hb; injection hb with hb; subst hb
      cases hrw
    · rw [hgo b hbn] at hb; rw [hpo b hbn] at hc
      exact hI.sim.own b blk c hb hc hrw hso
  · intro b b' blk blk' c c' hb hb' hne hc hc' hrw hso hso'
    by_cases hbn : b = new
    · subst hbn
      rw [hgn] at hb; injection hb with hb; subst hb
      cases hrw
    · rw [hgo b hbn] at hb; rw [hpo b hbn] at hc
      by_cases hbn' : b' = new
      · subst hbn'
        rw [hgn] at hb'; injection hb' with hb'; subst hb'
        rw [hpn] at hc'; injection hc' with hc'; subst hc'
        have h1 := hin (solid0 _ hso')
        have h2 := hI.sim.above b blk c hb hc hrw hso
        simp only; omega
      · rw [hgo b' hbn'] at hb'; rw [hpo b' hbn'] at hc'
        exact hI.sim.apart b b' blk blk' c c' hb hb' hne hc hc' hrw hso hso'
  · intro b hb
    by_cases hbn : b = new
    · subst hbn; rw [hgn] at hb; cases hb
    · rw [hgo b hbn] at hb; rw [hpo b hbn]; exact hI.sim.dom b hb
  · intro b blk c hb hc hrw hso
    by_cases hbn : b = new
    · subst hbn
      rw [hgn] at hb; injection hb with hb; subst hb
      cases hrw
    · rw [hgo b hbn] at hb; rw [hpo b hbn] at hc
      exact hI.sim.above b blk c hb hc hrw hso
  · intro b hb
    rw [hpo b (by omega)]; exact hI.agree b hb
  · intro b blk c hb hc hrw hso
    by_cases hbn : b = new
    · subst hbn
      rw [hgn] at hb; injection hb with hb; subst hb
      cases hrw
    · rw [hgo b hbn] at hb; rw [hpo b hbn] at hc
      exact hI.fresh b blk c hb hc hrw hso
theorem Inv.write {Γ : Ctx} {ρ : Ren} {h : Heap} {w w' : World} (hI : Inv Γ ρ h w) {b : Nat} {blk : Blk} (hb : h.get b = .live blk) (hrw : blk.rw = true) {cb co cc : Nat} (hρ : ρ b = some (cb, co, cc)) (hsol : blk.solid (cb, co, cc))
    (cs : Array Value) (e : TypeId) (hcs : w.heap[cb]? = some (.cells cs e (0, 0))) (cs' : Array Value) (hsz : cs'.size = cs.size) (cells : Cells)
    (hh : w'.heap = w.heap.setIfInBounds cb (.cells cs' e (0, 0))) (ho : w'.os = w.os) (ht : w'.tape = w.tape) (hu : w'.output = w.output)
    (hcells : CellsAt ρ w' cb 0 cells) (hlen : cells.len ≤ cs.size) :
    Inv Γ ρ (h.upd b (.live { blk with cells })) w' := by
  have hin := hI.sim.inside b blk _ hb hρ hsol
  have hold : ∀ i, i ≠ cb → w'.heap[i]? = w.heap[i]? := fun i hi => by rw [hh, Array.getElem?_setIfInBounds_ne (fun e => hi e.symm)]
  have hnew : w'.heap[cb]? = some (.cells cs' e (0, 0)) := by rw [hh]; simp at hin; simp [hin]
  have hgo : ∀ x, x ≠ b → (h.upd b (.live { blk with cells })).get x = h.get x := fun x hx => by rw [Heap.get_upd, if_neg hx]
  have hgn : (h.upd b (.live { blk with cells })).get b = .live { blk with cells } := by rw [Heap.get_upd, if_pos rfl]
  have hap : ∀ x xb c, x ≠ b → h.get x = .live xb → ρ x = some c → xb.solid c → c.1 ≠ cb := fun x xb c hx hg hc hso e =>
    hI.sim.apart b x blk xb _ c hb hg (fun e' => hx e'.symm) hρ hc hrw hsol hso e.symm
  have hsize : w'.heap.size = w.heap.size := by rw [hh]; simp
  refine ⟨⟨?_, ?_, ?_, ?_, ?_, ?_, by rw [hsize]; exact hI.sim.baseLe, ?_, ?_⟩, hI.agree, hI.sameBase, ho.trans hI.os, ht.trans hI.tape, hu.trans hI.output, by rw [hsize]; exact hI.size, ?_, ?_⟩
  · intro x xb hx
    by_cases hxb : x = b
    · subst hxb; exact ⟨_, hρ⟩
    · rw [hgo x hxb] at hx; exact hI.sim.some_ x xb hx
  · intro x xb c hx hc
    by_cases hxb : x = b
    · subst hxb
      rw [hgn] at hx; injection hx with hx; subst hx
      rw [hρ] at hc; injection hc with hc; subst hc
      have := (hI.sim.own x blk _ hb hρ hrw hsol).1
      simp at this; subst this
      exact hcells
    · rw [hgo x hxb] at hx
      exact (hI.sim.cells x xb c hx hc).of_cell fun hpos o => cell_of_heap (hold _ (hap x xb c hxb hx hc (.inl hpos))) o
  · intro x xb c hx hc hso
    rw [hsize]
    by_cases hxb : x = b
    · subst hxb; rw [hρ] at hc; injection hc with hc; subst hc; exact hin
    · rw [hgo x hxb] at hx; exact hI.sim.inside x xb c hx hc hso
  · intro x xb c hx hc hr hso
    by_cases hxb : x = b
    · subst hxb
      rw [hgn] at hx; injection hx with hx; subst hx
      rw [hρ] at hc; injection hc with hc; subst hc
      obtain ⟨h1, cs0, e0, h2, h3, h4⟩ := hI.sim.own x blk _ hb hρ hrw hsol
      refine ⟨h1, cs', e, hnew, by rw [hsz]; exact hlen, fun sz hg => ?_⟩
      simp only [hcs, Option.some.injEq, Obj.cells.injEq] at h2
      rw [hsz, h2.1]; exact h4 sz hg
    · rw [hgo x hxb] at hx
      obtain ⟨h1, cs0, e0, h2, h3⟩ := hI.sim.own x xb c hx hc hr hso
      exact ⟨h1, cs0, e0, by rw [hold _ (hap x xb c hxb hx hc hso)]; exact h2, h3⟩
  · intro x y xb yb c d hx hy hne hc hd hr hso hso'
    have solid_of : ∀ z zb c, (h.upd b (.live { blk with cells })).get z = .live zb → ρ z = some c → zb.solid c → ∃ zb', h.get z = .live zb' ∧ zb'.solid c ∧ (zb.rw = true → zb'.rw = true) := fun z zb c hz hc hs => by
      by_cases hzb : z = b
      · subst hzb; rw [hρ] at hc; injection hc with hc; subst hc; exact ⟨blk, hb, hsol, fun _ => hrw⟩
      · rw [hgo z hzb] at hz; exact ⟨zb, hz, hs, id⟩
    obtain ⟨xb', h1, h2, h2'⟩ := solid_of x xb c hx hc hso
    obtain ⟨yb', h3, h4, _⟩ := solid_of y yb d hy hd hso'
    exact hI.sim.apart x y xb' yb' c d h1 h3 hne hc hd (h2' hr) h2 h4
  · intro x hx
    by_cases hxb : x = b
    · subst hxb; rw [hgn] at hx; cases hx
    · rw [hgo x hxb] at hx; exact hI.sim.dom x hx
  · intro i hi
    have hab := hI.sim.above b blk _ hb hρ hrw hsol
    simp only at hab
    rw [hold i (by omega)]; exact hI.sim.old i hi
  · intro x xb c hx hc hr hso
    by_cases hxb : x = b
    · subst hxb; rw [hρ] at hc; injection hc with hc; subst hc; exact hI.sim.above x blk _ hb hρ hrw hsol
    · rw [hgo x hxb] at hx; exact hI.sim.above x xb c hx hc hr hso
  · intro i hi hn
    by_cases hib : i = cb
    · subst hib
      exfalso
      rcases hI.fresh b blk _ hb hρ hrw hsol with h1 | h1
      · simp at h1; omega
      · exact hn h1
    · rw [hold i hib]; exact hI.keep i hi hn
  · intro x xb c hx hc hr hso
    by_cases hxb : x = b
    · subst hxb; rw [hρ] at hc; injection hc with hc; subst hc; exact hI.fresh x blk _ hb hρ hrw hsol
    · rw [hgo x hxb] at hx; exact hI.fresh x xb c hx hc hr hso
theorem Inv.kill {Γ : Ctx} {ρ : Ren} {h : Heap} {w : World} (hI : Inv Γ ρ h w) (b : Nat) : Inv Γ ρ (h.upd b .dead) w := by
  have hg : ∀ x xb, (h.upd b .dead).get x = .live xb → h.get x = .live xb := fun x xb hx => by
    rw [Heap.get_upd] at hx
    split at hx
    · cases hx
    · exact hx
  refine ⟨⟨fun x xb hx => hI.sim.some_ x xb (hg x xb hx), fun x xb c hx => hI.sim.cells x xb c (hg x xb hx), fun x xb c hx => hI.sim.inside x xb c (hg x xb hx), fun x xb c hx => hI.sim.own x xb c (hg x xb hx),
    fun x y xb yb c d hx hy => hI.sim.apart x y xb yb c d (hg x xb hx) (hg y yb hy), fun x hx => ?_, hI.sim.baseLe, hI.sim.old, fun x xb c hx => hI.sim.above x xb c (hg x xb hx)⟩, hI.agree, hI.sameBase, hI.os, hI.tape, hI.output, hI.size, hI.keep, fun x xb c hx => hI.fresh x xb c (hg x xb hx)⟩
  rw [Heap.get_upd] at hx
  split at hx
  · cases hx
  · exact hI.sim.dom x hx
end Go.Ab
namespace Go.Ab
def still {α : Type} (P : Program) : Sem α → Option α
  | .pure a => some a
  | .program k => still P (k P)
  | .mark _ k => still P k
  | _ => none
theorem still_run {α : Type} {P : Program} : ∀ (s : Sem α) {a : α}, still P s = some a → ∀ w, s.run P w = .ok a w
  | .pure a, b, h, w => by simp [still] at h; subst h; rfl
  | .program k, b, h, w => by simp only [still] at h; simp only [Sem.run]; exact still_run (k P) h w
  | .load .., _, h, _ => by simp [still] at h
  | .store .., _, h, _ => by simp [still] at h
  | .new .., _, h, _ => by simp [still] at h
  | .shape .., _, h, _ => by simp [still] at h
  | .freeze .., _, h, _ => by simp [still] at h
  | .frozen .., _, h, _ => by simp [still] at h
  | .getObj .., _, h, _ => by simp [still] at h
  | .setObj .., _, h, _ => by simp [still] at h
  | .choose .., _, h, _ => by simp [still] at h
  | .sys .., _, h, _ => by simp [still] at h
  | .mark _ k, b, h, w => by simp only [still] at h; simp only [Sem.run]; exact still_run k h w
  | .halt .., _, h, _ => by simp [still] at h
mutual
def AV.plain? : AV → Option Value
  | .val v => some v
  | .agg cs => (AV.plains? cs).map fun l => .agg l.toArray
  | .tup vs => (AV.plains? vs).map fun l => .tuple l.toArray
  | .ifc t v => (AV.plain? v).map (.iface t)
  | .fn (.func f) a b => (AV.plains? a).bind fun x => (AV.plains? b).map fun y => .func (.func f) x.toArray y.toArray
  | .fn .. => none
  | .any => none
  | .ptr .. => none
  | .elt .. => none
  | .slc .. => none
def AV.plains? : List AV → Option (List Value)
  | [] => some []
  | a :: as => (AV.plain? a).bind fun v => (AV.plains? as).map (v :: ·)
end
mutual
theorem plain_eq {ρ : Ren} : ∀ (a : AV) {v cv : Value}, a.plain? = some v → VR ρ a cv → cv = v
  | .val u, v, cv, h, hv => by simp [AV.plain?] at h; subst h; simpa [VR] using hv
  | .agg cs, v, cv, h, hv => by
    simp only [AV.plain?, Option.map_eq_some_iff] at h
    obtain ⟨l, h1, rfl⟩ := h
    simp only [VR] at hv
    obtain ⟨cs', rfl, h2⟩ := hv
    rw [← plains_eq cs h1 h2]
  | .tup cs, v, cv, h, hv => by
    simp only [AV.plain?, Option.map_eq_some_iff] at h
    obtain ⟨l, h1, rfl⟩ := h
    simp only [VR] at hv
    obtain ⟨cs', rfl, h2⟩ := hv
    rw [← plains_eq cs h1 h2]
  | .ifc t u, v, cv, h, hv => by
    simp only [AV.plain?, Option.map_eq_some_iff] at h
    obtain ⟨l, h1, rfl⟩ := h
    simp only [VR] at hv
    obtain ⟨v', rfl, h2⟩ := hv
    rw [plain_eq u h1 h2]
  | .fn f a b, v, cv, h, hv => by
    cases f with
    | func f =>
      simp only [AV.plain?, Option.bind_eq_some_iff, Option.map_eq_some_iff] at h
      obtain ⟨x, h1, y, h2, rfl⟩ := h
      simp only [VR] at hv
      obtain ⟨fs', cs', rfl, h3, h4⟩ := hv
      rw [← plains_eq a h1 h3, ← plains_eq b h2 h4]; rfl
    | _ => simp [AV.plain?] at h
  | .any, _, _, h, _ => by simp [AV.plain?] at h
  | .ptr .., _, _, h, _ => by simp [AV.plain?] at h
  | .elt .., _, _, h, _ => by simp [AV.plain?] at h
  | .slc .., _, _, h, _ => by simp [AV.plain?] at h
theorem plains_eq {ρ : Ren} : ∀ (as : List AV) {l : List Value} {vs : List Value}, AV.plains? as = some l → VRs ρ as vs → vs = l
  | [], l, vs, h, hv => by
    simp [AV.plains?] at h; subst h
    cases vs with
    | nil => rfl
    | cons => simp [VRs] at hv
  | a :: as, l, vs, h, hv => by
    simp only [AV.plains?, Option.bind_eq_some_iff, Option.map_eq_some_iff] at h
    obtain ⟨v, h1, l', h2, rfl⟩ := h
    cases vs with
    | nil => simp [VRs] at hv
    | cons u us =>
      simp only [VRs] at hv
      rw [plain_eq a h1 hv.1, plains_eq as h2 hv.2]
end
def AV.one : AV → Bool
  | .val v => v.oneCell'
  | .ptr .. | .elt .. | .slc .. | .fn .. | .ifc .. => true
  | _ => false
theorem one_cell {ρ : Ren} {a : AV} {v : Value} (h : VR ρ a v) (h1 : a.one = true) : v.oneCell' = true := by
  cases a with
  | any => simp [AV.one] at h1
  | val u => simp only [VR] at h; subst h; exact h1
  | ptr b o => simp only [VR] at h; obtain ⟨_, _, _, _, rfl⟩ := h; rfl
  | elt b o i w f => simp only [VR] at h; obtain ⟨_, _, _, _, rfl⟩ := h; rfl
  | slc b o n c =>
    rcases h.slc_cases with ⟨_, _, _, _, _, _, rfl⟩ | ⟨_, _, rfl⟩ <;> rfl
  | fn f a b => simp only [VR] at h; obtain ⟨_, _, rfl, _⟩ := h; rfl
  | agg cs => simp [AV.one] at h1
  | tup cs => simp [AV.one] at h1
  | ifc t v => simp only [VR] at h; obtain ⟨_, rfl, _⟩ := h; rfl
def AV.asCells : AV → Option (List AV)
  | .agg cs => some cs
  | .val (.agg cs) => some (cs.toList.map .val)
  | .val (.tuple _) => none
  | .any => none
  | .tup _ => none
  | v => some [v]
theorem cells_of {ρ : Ren} {a : AV} {v : Value} {l : List AV} (ha : a.asCells = some l) (h : VR ρ a v) : VRs ρ l v.cells.toList := by
  unfold AV.asCells at ha
  split at ha
  · injection ha with ha; subst ha; simp only [VR] at h; obtain ⟨cs', rfl, h⟩ := h; exact h
  · injection ha with ha; subst ha; simp only [VR] at h; subst h; exact VRs.vals _
  · cases ha
  · cases ha
  · cases ha
  · rename_i h1 h2 h3 h4 h5
    injection ha with ha; subst ha
    have : v.cells = #[v] := by
      cases a with
      | val u =>
        simp only [VR] at h; subst h
        cases v with
        | agg cs => exact absurd rfl (h2 cs)
        | _ => rfl
      | ptr b o => simp only [VR] at h; obtain ⟨_, _, _, _, rfl⟩ := h; rfl
      | elt b o i w f => simp only [VR] at h; obtain ⟨_, _, _, _, rfl⟩ := h; rfl
      | slc b o n c =>
        rcases h.slc_cases with ⟨_, _, _, _, _, _, rfl⟩ | ⟨_, _, rfl⟩ <;> rfl
      | fn f a b => simp only [VR] at h; obtain ⟨_, _, rfl, _⟩ := h; rfl
      | agg cs => exact absurd rfl (h1 cs)
      | any => exact absurd rfl h4
      | tup vs => exact absurd rfl (h5 vs)
      | ifc t v => simp only [VR] at h; obtain ⟨_, rfl, _⟩ := h; rfl
    rw [this]; simp [VRs, h]
def ofValue1 : Value → AV
  | .agg cs => .agg (cs.toList.map .val)
  | v => .val v
def ofValue : Value → AV
  | .agg cs => .agg (cs.toList.map .val)
  | .tuple vs => .tup (vs.toList.map ofValue1)
  | v => .val v
theorem VR_ofValue1 (ρ : Ren) (v : Value) : VR ρ (ofValue1 v) v := by
  cases v <;> simp [ofValue1, VR]
  exact VRs.vals _
theorem VRs_ofValue1 (ρ : Ren) : ∀ l : List Value, VRs ρ (l.map ofValue1) l
  | [] => by simp [VRs]
  | v :: l => by simp only [List.map_cons, VRs]; exact ⟨VR_ofValue1 ρ v, VRs_ofValue1 ρ l⟩
theorem VR_ofValue (ρ : Ren) (v : Value) : VR ρ (ofValue v) v := by
  cases v <;> simp [ofValue, VR]
  · exact VRs.vals _
  · exact VRs_ofValue1 ρ _
inductive AnyV where
  | avs (a : List AV)
  | blk (a : Blk)
  | ent (a : Ent)
  | vals (a : List Value)
  | ovals (a : Option (List Value))
  | prop (a : Prop)
  | bool (a : Bool)
  | code (a : Code)
  | rows (a : List (List Value))
inductive Ob where
  | avs (a b : List AV)
  | blk (a b : Blk)
  | ent (a b : Ent)
  | vals (a b : List Value)
  | ovals (a b : Option (List Value))
  | prop (a b : Prop)
  | bool (a b : Bool)
  | code (a b : Code)
  | rows (a b : List (List Value))
def Ob.holds : Ob → Prop
  | .avs a b => a = b
  | .blk a b => a = b
  | .ent a b => a = b
  | .vals a b => a = b
  | .ovals a b => a = b
  | .prop a b => a = b
  | .bool a b => a = b
  | .code a b => a = b
  | .rows a b => a = b
def Ob.l : Ob → AnyV
  | .avs a _ => .avs a
  | .blk a _ => .blk a
  | .ent a _ => .ent a
  | .vals a _ => .vals a
  | .ovals a _ => .ovals a
  | .prop a _ => .prop a
  | .bool a _ => .bool a
  | .code a _ => .code a
  | .rows a _ => .rows a
def Ob.r : Ob → AnyV
  | .avs _ a => .avs a
  | .blk _ a => .blk a
  | .ent _ a => .ent a
  | .vals _ a => .vals a
  | .ovals _ a => .ovals a
  | .prop _ a => .prop a
  | .bool _ a => .bool a
  | .code _ a => .code a
  | .rows _ a => .rows a
structure Pf where
  p : Prop
  h : p
structure Eff where
  rb : List Nat := []
  wb : List (Nat × Ent) := []
  nw : Nat := 0
  val : AV
  ob : List Ob := []
def OpOK (P : Program) (Γ : Ctx) (ρ : Ren) (h : Heap) (w : World) (s : Sem Next) (e : Eff) : Prop :=
  ∃ ρ' nx cv w', s.run P w = .ok nx w' ∧ (nx = .value cv ∨ (nx = .skip ∧ cv = undef)) ∧ ρ.le ρ' ∧ VR ρ' e.val cv ∧ Inv Γ ρ' (h.upds e.wb) w'
theorem OpOK.pure {P : Program} {Γ : Ctx} {ρ : Ren} {h : Heap} {w : World} {s : Sem Next} {e : Eff} (hI : Inv Γ ρ h w) (cv : Value) (hr : s.run P w = .ok (.value cv) w) (hv : VR ρ e.val cv) (hw : e.wb = []) : OpOK P Γ ρ h w s e :=
  ⟨ρ, _, cv, w, hr, .inl rfl, ρ.le_refl, hv, by rw [hw]; exact hI⟩
theorem run_v {P : Program} {s : Sem Value} {w w' : World} {v : Value} (h : s.run P w = .ok v w') : (do pure (Next.value (← s)) : Sem Next).run P w = .ok (.value v) w' := by
  simp [Sem.run_bind, h, Result.andThen]
theorem run_u {P : Program} {s : Sem Unit} {w w' : World} (h : s.run P w = .ok () w') : (do s; pure Next.skip : Sem Next).run P w = .ok .skip w' := by
  simp [Sem.run_bind, h, Result.andThen]
theorem run_info {P : Program} {t : TypeId} {i : TypeInfo} (h : P.info? t = some i) (w : World) : (typeInfo t).run P w = .ok i w := by
  simp [typeInfo, program, Sem.run_bind, Sem.run, h, Result.andThen, pure]
theorem run_size {P : Program} {t : TypeId} {i : TypeInfo} (h : P.info? t = some i) (w : World) : (sizeOf t).run P w = .ok i.size w := by
  simp [sizeOf, Sem.run_bind, run_info h, Result.andThen, pure, Sem.run]
theorem run_zero {P : Program} {t : TypeId} {i : TypeInfo} {z : Value} (h : P.info? t = some i) (hz : i.zero = some z) (w : World) : (zeroValue t).run P w = .ok z w := by
  simp [zeroValue, Sem.run_bind, run_info h, hz, Result.andThen, pure, Sem.run]
end Go.Ab
namespace Go.Ab
def newBlk (l : List AV) : Ent := .live { cells := .lit l, rw := true }
theorem alloc_lit {Γ : Ctx} {ρ : Ren} {h : Heap} {w : World} (hI : Inv Γ ρ h w) {new : Nat} (hn : Γ.n0 ≤ new) (hfree : h.get new = .free) (e : TypeId) {l : List AV} {cs : Array Value} (hl : VRs ρ l cs.toList) :
    ∃ ρ', ρ.le ρ' ∧ ρ' new = some (w.heap.size, 0, 0) ∧ Inv Γ ρ' (h.upd new (newBlk l)) { w with heap := w.heap.push (.cells cs e (0, 0)) } := by
  have hc : CellsAt ρ { w with heap := w.heap.push (.cells cs e (0, 0)) } w.heap.size 0 (.lit l) := by
    intro i v hi
    obtain ⟨cv, h1, h2⟩ := hl.get i v hi
    refine ⟨cv, ?_, h2⟩
    simp [World.cell?]
    simpa using h1
  obtain ⟨h1, h2⟩ := hI.alloc (w' := { w with heap := w.heap.push (.cells cs e (0, 0)) }) hn hfree cs e (.lit l) none 0 rfl rfl rfl rfl hc (by simp [Cells.len]; have := hl.length; simp at this; omega) (by intro sz h; cases h)
  exact ⟨_, h1, by simp [Ren.put], h2⟩
theorem run_newRow {P : Program} (e : TypeId) (cs : Array Value) (w : World) : (newRow e cs).run P w = .ok ⟨w.heap.size, 0, none⟩ { w with heap := w.heap.push (.cells cs e (0, 0)) } := by
  simp [newRow, newObj, Sem.run_bind, Sem.run, Result.andThen, pure]
def zeroCells (P : Program) (t : TypeId) : Option (List AV) := (P.info? t).bind fun i => i.zero.map fun z => z.cells.toList.map .val
def coreAlloc (P : Program) (t : TypeId) (new : Nat) : Option Eff := (zeroCells P t).map fun l => { wb := [(new, newBlk l)], nw := 1, val := .ptr new 0 }
theorem coreAlloc_ok {P : Program} {Γ : Ctx} {ρ : Ren} {h : Heap} {w : World} (hI : Inv Γ ρ h w) {t : TypeId} {new : Nat} {e : Eff} (hc : coreAlloc P t new = some e) (hn : Γ.n0 ≤ new) (hfree : h.get new = .free) :
    OpOK P Γ ρ h w (do pure (.value (← Instr.alloc t true (.tuple #[])))) e := by
  simp only [coreAlloc, zeroCells, Option.map_eq_some_iff, Option.bind_eq_some_iff] at hc
  obtain ⟨l, ⟨i, hi, z, hz, rfl⟩, rfl⟩ := hc
  obtain ⟨ρ', h1, h2, h3⟩ := alloc_lit hI hn hfree t (VRs.vals z.cells.toList)
  refine ⟨ρ', _, _, _, run_v (v := .pointer (some ⟨w.heap.size, 0, none⟩)) ?_, .inl rfl, h1, ?_, h3⟩
  · simp [Instr.alloc, Sem.run_bind, run_zero hi hz, Result.andThen, newVar, run_newRow, pure, Sem.run]
  · simp [VR, h2]
def coreBox (v : AV) (new : Nat) : Option Eff := v.asCells.map fun l => { wb := [(new, newBlk l)], nw := 1, val := .ptr new 0 }
theorem coreBox_ok {P : Program} {Γ : Ctx} {ρ : Ren} {h : Heap} {w : World} (hI : Inv Γ ρ h w) {t : TypeId} {a : AV} {v : Value} (hv : VR ρ a v) {new : Nat} {e : Eff} (hc : coreBox a new = some e) (hn : Γ.n0 ≤ new) (hfree : h.get new = .free) :
    OpOK P Γ ρ h w (do pure (.value (← Instr.box t v))) e := by
  simp only [coreBox, Option.map_eq_some_iff] at hc
  obtain ⟨l, hl, rfl⟩ := hc
  obtain ⟨ρ', h1, h2, h3⟩ := alloc_lit hI hn hfree t (cells_of hl hv)
  refine ⟨ρ', _, _, _, run_v (v := .pointer (some ⟨w.heap.size, 0, none⟩)) ?_, .inl rfl, h1, ?_, h3⟩
  · simp [Instr.box, Sem.run_bind, Result.andThen, newVar, run_newRow, pure, Sem.run]
  · simp [VR, h2]
def setRange (l : List AV) (o : Nat) (vs : List AV) : List AV := l.take o ++ vs ++ l.drop (o + vs.length)
def fillA (place : Nat → Option (Nat × Nat)) (cells : List AV) : List (Nat × AV) → Option (List AV)
  | [] => some cells
  | (i, v) :: rest =>
    match place i, v.asCells with
    | some (off, size), some vs => if vs.length = size ∧ off + vs.length ≤ cells.length then fillA place (setRange cells off vs) rest else none
    | _, _ => none
theorem foldl_set (vs : List Value) : ∀ (off : Nat) (cs : Array Value) (j0 : Nat), off + j0 + vs.length ≤ cs.size →
    ((vs.zipIdx j0).foldl (fun cs (x : Value × Nat) => cs.setIfInBounds (off + x.2) x.1) cs).toList = cs.toList.take (off + j0) ++ vs ++ cs.toList.drop (off + j0 + vs.length) := by
  induction vs with
  | nil => intro off cs j0 h; simp
  | cons v vs ih =>
    intro off cs j0 h
    simp only [List.zipIdx_cons, List.foldl_cons]
    rw [show off + (j0) = off + j0 from rfl]
    have h' := ih off (cs.setIfInBounds (off + j0) v) (j0 + 1) (by simp at h ⊢; omega)
    rw [h']
    simp only [Array.toList_setIfInBounds, List.length_cons]
    have hlt : off + j0 < cs.toList.length := by simp at h ⊢; omega
    rw [show off + (j0 + 1) = off + j0 + 1 by omega]
    have e1 : (cs.toList.set (off + j0) v).take (off + j0 + 1) = cs.toList.take (off + j0) ++ [v] := by
      rw [List.take_succ_eq_append_getElem (by simpa using hlt)]
      simp [List.take_set_of_le]
    have e2 : (cs.toList.set (off + j0) v).drop (off + j0 + 1 + vs.length) = cs.toList.drop (off + j0 + (vs.length + 1)) := by
      rw [List.drop_set_of_lt (by omega)]
      congr 1; omega
    rw [e1, e2]; simp
theorem VRs.setRange {ρ : Ren} {l : List AV} {cs : List Value} (h : VRs ρ l cs) {o : Nat} {vs : List AV} {us : List Value} (hv : VRs ρ vs us) : VRs ρ (setRange l o vs) (cs.take o ++ us ++ cs.drop (o + us.length)) := by
  unfold Ab.setRange
  rw [hv.length]
  exact ((h.take _).append hv).append (h.drop _)
theorem fillA_ok {ρ : Ren} {place : Nat → Option (Nat × Nat)} : ∀ (ps : List (Nat × AV)) (us : List (Nat × Value)) (cells : List AV) (cs : Array Value) (out : List AV), fillA place cells ps = some out → VRs ρ cells cs.toList →
    ps.map (·.1) = us.map (·.1) → VRs ρ (ps.map (·.2)) (us.map (·.2)) → ∃ cs', Instr.fill place cs us = some cs' ∧ VRs ρ out cs'.toList
  | [], us, cells, cs, out, hf, hc, h1, h2 => by
    cases us with
    | nil => simp [fillA] at hf; subst hf; exact ⟨cs, rfl, hc⟩
    | cons => simp at h1
  | (i, a) :: ps, us, cells, cs, out, hf, hc, h1, h2 => by
    cases us with
    | nil => simp at h1
    | cons u us =>
      obtain ⟨i', v⟩ := u
      simp only [List.map_cons, List.cons.injEq] at h1
      obtain ⟨rfl, h1⟩ := h1
      simp only [List.map_cons, VRs] at h2
      simp only [fillA] at hf
      cases hp : place i with
      | none => simp [hp] at hf
      | some os =>
        obtain ⟨off, size⟩ := os
        cases ha : a.asCells with
        | none => simp [hp, ha] at hf
        | some vs =>
          simp only [hp, ha] at hf
          split at hf
          · rename_i hcond
            have hvs := cells_of ha h2.1
            have hlen := hvs.length
            have hlc := hc.length
            simp only [Instr.fill, hp]
            simp only [Array.length_toList] at hlen hlc
            rw [if_neg (by simp; omega)]
            have hfold := foldl_set v.cells.toList off cs 0 (by simp; omega)
            obtain ⟨cs', h3, h4⟩ := fillA_ok ps us (Ab.setRange cells off vs) (v.cells.zipIdx.foldl (fun cs (x : Value × Nat) => cs.setIfInBounds (off + x.2) x.1) cs) out hf (by
              have e : (v.cells.zipIdx.foldl (fun cs (x : Value × Nat) => cs.setIfInBounds (off + x.2) x.1) cs).toList = cs.toList.take off ++ v.cells.toList ++ cs.toList.drop (off + v.cells.toList.length) := by
                rw [← Array.foldl_toList, Array.toList_zipIdx]
                simpa using hfold
              rw [e]
              exact hc.setRange hvs) h1 h2.2
            exact ⟨cs', h3, h4⟩
          · cases hf
def zipParts (ps : Array (Nat × Operand)) (E : Operand → AV) : List (Nat × AV) := ps.toList.map fun p => (p.1, E p.2)
def structPlaces (P : Program) (fs : Array Field) : Option (List (Nat × Nat)) := fs.toList.mapM fun f => (P.info? f.type).map fun i => (f.offset, i.size)
def coreBuild (P : Program) (t : TypeId) (ps : List (Nat × AV)) : Option Eff :=
  (zeroCells P t).bind fun z =>
    match P.underlying t with
    | some (.struct fs) => (structPlaces P fs).bind fun pl => (fillA (fun i => pl.toArray[i]?) z ps).map fun out => { val := .agg out }
    | some (.array _ e) => (P.info? e).bind fun i => (fillA (fun k => some (k * i.size, i.size)) z ps).map fun out => { val := .agg out }
    | _ => none
theorem run_underlying' {P : Program} {t : TypeId} {d : TypeDesc} (h : P.underlying t = some d) (w : World) : (underlying t).run P w = .ok d w := run_underlying h w
theorem run_mapM_list {P : Program} {α β : Type} (f : α → Sem β) (g : α → Option β) (w : World) (hfg : ∀ x y, g x = some y → (f x).run P w = .ok y w) : ∀ (l : List α) (r : List β), l.mapM g = some r → (l.mapM f).run P w = .ok r w
  | [], r, h => by simp at h; subst h; simp [pure, Sem.run]
  | x :: l, r, h => by
    simp only [List.mapM_cons, Option.bind_eq_bind, Option.bind_eq_some_iff] at h
    obtain ⟨y, hy, l', hl', h⟩ := h
    simp at h; subst h
    simp only [List.mapM_cons, Sem.run_bind, hfg x y hy, Result.andThen, run_mapM_list f g w hfg l l' hl']
    simp [pure, Sem.run]
theorem run_places {P : Program} (w : World) {fs : Array Field} {pl : List (Nat × Nat)} (h : structPlaces P fs = some pl) : (fs.mapM fun f => do pure (f.offset, ← sizeOf f.type) : Sem (Array (Nat × Nat))).run P w = .ok pl.toArray w := by
  rw [Array.mapM_eq_mapM_toList]
  have := run_mapM_list (P := P) (fun f : Field => (do pure (f.offset, ← sizeOf f.type) : Sem (Nat × Nat))) (fun f : Field => (P.info? f.type).map fun i : TypeInfo => (f.offset, i.size)) w (by
    intro f y hy
    simp only [Option.map_eq_some_iff] at hy
    obtain ⟨i, hi, rfl⟩ := hy
    simp [Sem.run_bind, run_size hi, Result.andThen, pure, Sem.run]) fs.toList pl h
  rw [map_eq_pure_bind, Sem.run_bind, this]
  simp [Result.andThen, pure, Sem.run]
theorem coreBuild_ok {P : Program} {Γ : Ctx} {ρ : Ren} {h : Heap} {w : World} (hI : Inv Γ ρ h w) {t : TypeId} {ps : List (Nat × AV)} {us : Array (Nat × Value)} (h1 : ps.map (·.1) = us.toList.map (·.1)) (h2 : VRs ρ (ps.map (·.2)) (us.toList.map (·.2))) {e : Eff} (hc : coreBuild P t ps = some e) :
    OpOK P Γ ρ h w (do pure (.value (← Instr.build t us))) e := by
  simp only [coreBuild, zeroCells, Option.bind_eq_some_iff, Option.map_eq_some_iff] at hc
  obtain ⟨z, ⟨i, hi, zv, hz, rfl⟩, hc⟩ := hc
  cases hu : P.underlying t with
  | none => simp [hu] at hc
  | some d =>
    cases d with
    | struct fs =>
      simp only [hu, Option.bind_eq_some_iff, Option.map_eq_some_iff] at hc
      obtain ⟨pl, hpl, out, hf, rfl⟩ := hc
      obtain ⟨cs', h3, h4⟩ := fillA_ok (ρ := ρ) ps us.toList _ zv.cells out hf (VRs.vals _) h1 h2
      refine .pure hI (.agg cs') (run_v ?_) (by simp only [VR]; exact ⟨cs', rfl, h4⟩) rfl
      simp only [Instr.build, Sem.run_bind, run_zero hi hz, Result.andThen, run_underlying' hu, run_places w hpl, h3]
      rfl
    | array n el =>
      simp only [hu, Option.bind_eq_some_iff, Option.map_eq_some_iff] at hc
      obtain ⟨ie, hie, out, hf, rfl⟩ := hc
      obtain ⟨cs', h3, h4⟩ := fillA_ok (ρ := ρ) ps us.toList _ zv.cells out hf (VRs.vals _) h1 h2
      refine .pure hI (.agg cs') (run_v ?_) (by simp only [VR]; exact ⟨cs', rfl, h4⟩) rfl
      simp only [Instr.build, Sem.run_bind, run_zero hi hz, Result.andThen, run_underlying' hu, run_size hie, h3, pure, Sem.run]
    | _ => simp [hu] at hc
end Go.Ab
namespace Go.Ab
def isAggD : TypeDesc → Bool
  | .struct _ => true
  | .array _ _ => true
  | _ => false
theorem run_isAgg {P : Program} {t : TypeId} {d : TypeDesc} (h : P.underlying t = some d) (w : World) : (isAgg t).run P w = .ok (isAggD d) w := by
  simp only [isAgg, Sem.run_bind, run_underlying' h, Result.andThen]
  cases d <;> rfl
theorem CellsAt.list {ρ : Ren} {w : World} {cb : Nat} : ∀ (l : List AV) (co : Nat), CellsAt ρ w cb co (.lit l) → ∃ cs : List Value, VRs ρ l cs ∧ ∀ i v, cs[i]? = some v → w.cell? ⟨cb, co + i, none⟩ = some v
  | [], co, _ => ⟨[], by simp [VRs], by simp⟩
  | a :: l, co, h => by
    obtain ⟨v, h1, h2⟩ := h 0 a rfl
    obtain ⟨cs, h3, h4⟩ := CellsAt.list l (co + 1) (fun i x hx => by
      obtain ⟨cv, h5, h6⟩ := h (i + 1) x (by simpa using hx)
      exact ⟨cv, by rw [← h5]; congr 2; omega, h6⟩)
    refine ⟨v :: cs, by simp only [VRs]; exact ⟨h2, h3⟩, fun i u hu => ?_⟩
    cases i with
    | zero => simp at hu; subst hu; exact h1
    | succ i => simp at hu; have := h4 i u hu; rw [← this]; congr 2; omega
theorem add_lit (b o n : Nat) : Addr.add ⟨b, o, none⟩ n = ⟨b, o + n, none⟩ := by
  unfold Addr.add; split
  · subst_vars; rfl
  · rfl
def partA (P : Program) (t : TypeId) (cs : List AV) (off : Nat) : Option AV :=
  (P.underlying t).bind fun d => if isAggD d = true then (P.info? t).bind fun i => if off + i.size ≤ cs.length then some (.agg ((cs.drop off).take i.size)) else none else cs[off]?
theorem extract_list (cs : Array Value) (a n : Nat) : (cs.extract a (a + n)).toList = (cs.toList.drop a).take n := by
  rw [Array.toList_extract, List.extract_eq_take_drop]
  congr 1
  omega
theorem partA_ok {P : Program} {ρ : Ren} {t : TypeId} {cs : List AV} {off : Nat} {a : AV} (h : partA P t cs off = some a) {us : Array Value} (hv : VRs ρ cs us.toList) (w : World) :
    ∃ v, (part t us off).run P w = .ok v w ∧ VR ρ a v := by
  simp only [partA, Option.bind_eq_some_iff] at h
  obtain ⟨d, hd, h⟩ := h
  split at h
  · rename_i hag
    simp only [Option.bind_eq_some_iff] at h
    obtain ⟨i, hi, h⟩ := h
    split at h
    · injection h with h; subst h
      refine ⟨.agg (us.extract off (off + i.size)), ?_, ?_⟩
      · simp only [part, Sem.run_bind, run_isAgg hd, Result.andThen, hag, if_true, run_size hi]; rfl
      · simp only [VR]; exact ⟨_, rfl, by rw [extract_list]; exact (hv.drop _).take _⟩
    · cases h
  · rename_i hag
    obtain ⟨v, h1, h2⟩ := hv.get off a h
    refine ⟨v, ?_, h2⟩
    have hag' : isAggD d = false := by simpa using hag
    simp only [part, Sem.run_bind, run_isAgg hd, Result.andThen, hag', Bool.false_eq_true, if_false]
    rw [show us[off]? = some v by simpa using h1]; rfl
def coreLoad (P : Program) (t : TypeId) (b o : Nat) (e : Ent) (vs : Option (List Value × Pf)) (new : Nat) : Option Eff :=
  match e with
  | .live blk =>
    match blk.cells with
    | .lit l => (partA P t l o).map fun a => { rb := [b], val := a }
    | .sym l => vs.bind fun vs => (P.underlying t).bind fun d =>
        if isAggD d = true then (P.info? t).bind fun i => if vs.1.length = i.size then some { rb := [b], val := .agg (vs.1.map .val), ob := [.prop ((l.drop o).take vs.1.length = vs.1) vs.2.p] } else none
        else match vs.1 with
          | [v] => some { rb := [b], val := .val v, ob := [.prop (l[o]? = some v) vs.2.p] }
          | _ => none
    | .rows l => vs.bind fun vs => (P.underlying t).bind fun d =>
        if isAggD d = true then none else some { rb := [b], wb := [(new, .live { cells := .sym vs.1, rw := false })], nw := 1, val := .slc new 0 vs.1.length .low, ob := [.prop (l[o]? = some vs.1) vs.2.p] }
    | _ => none
  | _ => none
theorem loadVar_lit {P : Program} {ρ : Ren} {w : World} {t : TypeId} {cb co o : Nat} {l : List AV} {a : AV} (hp : partA P t l o = some a) (hc : CellsAt ρ w cb co (.lit l)) :
    ∃ v, (loadVar t ⟨cb, co + o, none⟩).run P w = .ok v w ∧ VR ρ a v := by
  obtain ⟨cs, h1, h2⟩ := CellsAt.list l co hc
  simp only [partA, Option.bind_eq_some_iff] at hp
  obtain ⟨d, hd, hp⟩ := hp
  split at hp
  · rename_i hag
    simp only [Option.bind_eq_some_iff] at hp
    obtain ⟨i, hi, hp⟩ := hp
    split at hp
    · rename_i hle
      injection hp with hp; subst hp
      have hlen : ((cs.drop o).take i.size).length = i.size := by
        have := h1.length; simp; omega
      have hrun := run_loadCells_list (P := P) w ⟨cb, co + o, none⟩ ((cs.drop o).take i.size) (fun j v hj => by
        rw [add_lit]
        have hji : j < i.size := by
          rcases Nat.lt_or_ge j i.size with h' | h'
          · exact h'
          · rw [List.getElem?_eq_none (by rw [hlen]; exact h')] at hj; cases hj
        rw [List.getElem?_take, if_pos hji, List.getElem?_drop] at hj
        rw [Nat.add_assoc]; exact h2 _ v hj)
      rw [hlen] at hrun
      refine ⟨.agg ((cs.drop o).take i.size).toArray, ?_, ?_⟩
      · simp only [loadVar, Sem.run_bind, run_isAgg hd, Result.andThen, hag, if_true, run_size hi, hrun]; rfl
      · simp only [VR]; exact ⟨_, rfl, by simpa using (h1.drop _).take _⟩
    · cases hp
  · rename_i hag
    obtain ⟨v, h3, h4⟩ := h1.get o a hp
    refine ⟨v, ?_, h4⟩
    have hag' : isAggD d = false := by simpa using hag
    simp only [loadVar, Sem.run_bind, run_isAgg hd, Result.andThen, hag', Bool.false_eq_true, if_false, run_load, h2 o v h3]
theorem loadVar_sym {P : Program} {ρ : Ren} {w : World} {t : TypeId} {cb co o : Nat} {l : List Value} (hc : CellsAt ρ w cb co (.sym l)) {d : TypeDesc} (hd : P.underlying t = some d) :
    (∀ vs i, isAggD d = true → P.info? t = some i → vs.length = i.size → (l.drop o).take vs.length = vs → (loadVar t ⟨cb, co + o, none⟩).run P w = .ok (.agg vs.toArray) w) ∧
    (∀ v, isAggD d = false → l[o]? = some v → (loadVar t ⟨cb, co + o, none⟩).run P w = .ok v w) := by
  constructor
  · intro vs i hag hi hlen hvs
    have hrun := run_loadCells_list (P := P) w ⟨cb, co + o, none⟩ vs (fun j v hj => by
      rw [add_lit]
      have hjl : j < vs.length := by
        rcases Nat.lt_or_ge j vs.length with h' | h'
        · exact h'
        · rw [List.getElem?_eq_none h'] at hj; cases hj
      rw [← hvs, List.getElem?_take, if_pos hjl, List.getElem?_drop] at hj
      rw [Nat.add_assoc]; exact hc _ v hj)
    rw [hlen] at hrun
    simp only [loadVar, Sem.run_bind, run_isAgg hd, Result.andThen, hag, if_true, run_size hi, hrun]; rfl
  · intro v hag hv
    simp only [loadVar, Sem.run_bind, run_isAgg hd, Result.andThen, hag, Bool.false_eq_true, if_false, run_load, hc o v hv]
theorem coreLoad_ok {P : Program} {Γ : Ctx} {ρ : Ren} {h : Heap} {w : World} (hI : Inv Γ ρ h w) {t : TypeId} {b o : Nat} {v : Value} (hv : VR ρ (.ptr b o) v) {vs : Option (List Value × Pf)} {new : Nat} {e : Eff} (hc : coreLoad P t b o (h.get b) vs new = some e) (hob : ∀ p ∈ e.ob, p.holds) (hn : Γ.n0 ≤ new) (hfree : ∀ x, new ≤ x → x < new + e.nw → h.get x = .free) :
    OpOK P Γ ρ h w (do pure (.value (← Instr.loadAt t v))) e := by
  simp only [VR] at hv
  obtain ⟨cb, co, cc, hρ, rfl⟩ := hv
  have hsure : ∀ r, (loadVar t ⟨cb, co + o, none⟩).run P w = .ok r w → (Instr.loadAt t (.pointer (some ⟨cb, co + o, none⟩))).run P w = .ok r w := fun r hr => by
    simp only [Instr.loadAt, Sem.run_bind, Instr.sureAddr, Result.andThen]
    show (loadVar t ⟨cb, co + o, none⟩).run P w = .ok r w
    exact hr
  unfold coreLoad at hc
  split at hc
  · rename_i blk hblk
    have hcells := hI.sim.cells b blk _ hblk hρ
    split at hc
    · rename_i l hl
      simp only [Option.map_eq_some_iff] at hc
      obtain ⟨a, ha, rfl⟩ := hc
      rw [hl] at hcells
      obtain ⟨r, h1, h2⟩ := loadVar_lit ha hcells
      exact .pure hI r (run_v (hsure _ h1)) h2 rfl
    · rename_i l hl
      rw [hl] at hcells
      simp only [Option.bind_eq_some_iff] at hc
      obtain ⟨vs, hvs, d, hd, hc⟩ := hc
      have hboth := loadVar_sym (o := o) hcells hd
      split at hc
      · rename_i hag
        simp only [Option.bind_eq_some_iff] at hc
        obtain ⟨i, hi, hc⟩ := hc
        split at hc
        · rename_i hlen
          injection hc with hc; subst hc
          have hobl := hob _ (List.mem_singleton.2 rfl)
          exact .pure hI _ (run_v (hsure _ (hboth.1 vs.1 i hag hi hlen (cast (Eq.symm hobl) vs.2.h)))) (by simp only [VR]; exact ⟨_, rfl, VRs.vals _⟩) rfl
        · cases hc
      · rename_i hag
        split at hc
        · rename_i u hu
          injection hc with hc; subst hc
          have hobl := hob _ (List.mem_singleton.2 rfl)
          exact .pure hI _ (run_v (hsure _ (hboth.2 u (by simpa using hag) (cast (Eq.symm hobl) vs.2.h)))) (by simp [VR]) rfl
        · cases hc
    · rename_i l hl
      rw [hl] at hcells
      simp only [Option.bind_eq_some_iff] at hc
      obtain ⟨vs, hvs, d, hd, hc⟩ := hc
      split at hc
      · cases hc
      · rename_i hag
        injection hc with hc; subst hc
        have hobl : l[o]? = some vs.1 := cast (Eq.symm (hob _ (List.mem_singleton.2 rfl))) vs.2.h
        obtain ⟨cv, h1, h2⟩ := hcells o vs.1 hobl
        have hag' : isAggD d = false := by simpa using hag
        have hrun : (loadVar t ⟨cb, co + o, none⟩).run P w = .ok cv w := by
          simp only at h1
          simp only [loadVar, Sem.run_bind, run_isAgg hd, Result.andThen, hag', Bool.false_eq_true, if_false, run_load, h1]
        have hfr := hfree new (Nat.le_refl _) (by simp)
        rcases h2 with ⟨h3, a, h4⟩ | ⟨b', o', c', h3, h4, h5⟩
        · obtain ⟨k1, k2⟩ := hI.addRo hn hfr vs.1 0 0 (by rw [h3]; simp)
          refine ⟨_, _, cv, w, run_v (hsure _ hrun), .inl rfl, k1, ?_, k2⟩
          simp only [VR]; exact .inr ⟨by rw [h3]; rfl, a, h4⟩
        · obtain ⟨k1, k2⟩ := hI.addRo hn hfr vs.1 b' o' h5
          refine ⟨_, _, cv, w, run_v (hsure _ hrun), .inl rfl, k1, ?_, k2⟩
          simp only [VR]; exact .inl ⟨b', o', 0, c', by simp [Ren.put], h4, by rw [h3]; rfl⟩
    · cases hc
  · cases hc
def coreStore (P : Program) (t : TypeId) (b o : Nat) (e : Ent) (a : AV) (pf : Option Pf) : Option Eff :=
  match e with
  | .live blk =>
    if blk.rw = true then
      (a.asCells).bind fun vs => (P.info? t).bind fun i =>
        if vs.length = i.size ∧ vs.all AV.one = true ∧ 0 < vs.length then
          match blk.cells with
          | .lit l => if o + vs.length ≤ l.length then some { rb := [b], wb := [(b, .live { blk with cells := .lit (setRange l o vs) })], val := .val undef } else none
          | .sym l => pf.bind fun pf => (AV.plains? vs).map fun us => { rb := [b], wb := [(b, .live { blk with cells := .sym (l.take o ++ us ++ l.drop (o + us.length)) })], val := .val undef, ob := [.prop (o + us.length ≤ l.length) pf.p] }
          | _ => none
        else none
    else none
  | _ => none
theorem setRow_set (w : World) (g : Nat) (old cs : Array Value) (e : TypeId) (hg : w.heap[g]? = some (.cells old e (0, 0))) : (w.setRow g cs).heap = w.heap.setIfInBounds g (.cells cs e (0, 0)) := by
  apply Array.ext_getElem?
  intro i
  by_cases hi : g = i
  · subst hi
    rw [setRow_heap w g old cs e (0, 0) hg, Array.getElem?_setIfInBounds_self_of_lt]
    exact (Array.getElem?_eq_some_iff.1 hg).1
  · rw [Array.getElem?_setIfInBounds_ne hi]
    simp [World.setRow, Array.getElem?_modify, hi]
theorem take_set_list {α : Type} (cs : List α) (L o : Nat) (us : List α) (h1 : o + us.length ≤ L) (h2 : L ≤ cs.length) :
    (cs.take o ++ us ++ cs.drop (o + us.length)).take L = (cs.take L).take o ++ us ++ (cs.take L).drop (o + us.length) := by
  apply List.ext_getElem?
  intro i
  simp only [List.getElem?_take, List.getElem?_append, List.length_append, List.length_take, List.getElem?_drop]
  have e1 : min o cs.length = o := by omega
  have e2 : min o (min L cs.length) = o := by omega
  rw [e1, e2]
  by_cases a1 : i < L
  · rw [if_pos a1]
    by_cases a2 : i < o + us.length
    · rw [if_pos a2, if_pos a2]
      by_cases a3 : i < o
      · simp [a3, a1]
      · simp [a3]
    · rw [if_neg a2, if_neg a2]
      have : o + us.length + (i - (o + us.length)) < L := by omega
      rw [if_pos this]
  · rw [if_neg a1]
    have a2 : ¬ i < o + us.length := by omega
    rw [if_neg a2]
    have : ¬ o + us.length + (i - (o + us.length)) < L := by omega
    rw [if_neg this]
theorem VRs_one {ρ : Ren} : ∀ {as : List AV} {vs : List Value}, VRs ρ as vs → as.all AV.one = true → ∀ v ∈ vs, v.oneCell' = true
  | [], [], _, _ => by simp
  | a :: as, v :: vs, h, h1 => by
    simp only [VRs] at h
    simp only [List.all_cons, Bool.and_eq_true] at h1
    intro u hu
    rcases List.mem_cons.1 hu with rfl | hu
    · exact one_cell h.1 h1.1
    · exact VRs_one h.2 h1.2 u hu
  | [], _ :: _, h, _ => by simp [VRs] at h
  | _ :: _, [], h, _ => by simp [VRs] at h
theorem cell_setRow (w : World) (g : Nat) (old cs : Array Value) (e : TypeId) (hg : w.heap[g]? = some (.cells old e (0, 0))) (i : Nat) : (w.setRow g cs).cell? ⟨g, i, none⟩ = cs[i]? := by
  simp [World.cell?, setRow_heap w g old cs e (0, 0) hg]
theorem lit_of_take {ρ : Ren} {w : World} {g : Nat} {cs : Array Value} (hc : ∀ i, w.cell? ⟨g, i, none⟩ = cs[i]?) {l : List AV} (h : VRs ρ l (cs.toList.take l.length)) : CellsAt ρ w g 0 (.lit l) := by
  intro i v hi
  obtain ⟨cv, h1, h2⟩ := h.get i v hi
  refine ⟨cv, ?_, h2⟩
  rw [Nat.zero_add, hc]
  rw [List.getElem?_take] at h1
  split at h1
  · simpa using h1
  · cases h1
theorem take_of_lit {ρ : Ren} {w : World} {g : Nat} {cs : Array Value} (hc : ∀ i, w.cell? ⟨g, i, none⟩ = cs[i]?) {l : List AV} (hlen : l.length ≤ cs.size) (h : CellsAt ρ w g 0 (.lit l)) : VRs ρ l (cs.toList.take l.length) := by
  refine VRs.of_get (by simp; omega) fun i a ha => ?_
  obtain ⟨cv, h1, h2⟩ := h i a ha
  refine ⟨cv, ?_, h2⟩
  rw [Nat.zero_add, hc] at h1
  have : i < l.length := by
    rcases Nat.lt_or_ge i l.length with h' | h'
    · exact h'
    · simp [List.getElem?_eq_none h'] at ha
  rw [List.getElem?_take, if_pos this]; simpa using h1
theorem coreStore_ok {P : Program} {Γ : Ctx} {ρ : Ren} {h : Heap} {w : World} (hI : Inv Γ ρ h w) {t : TypeId} {b o : Nat} {v : Value} (hv : VR ρ (.ptr b o) v) {a : AV} {x : Value} (hx : VR ρ a x) {pf : Option Pf} {e : Eff} (hc : coreStore P t b o (h.get b) a pf = some e) (hob : ∀ p ∈ e.ob, p.holds) :
    OpOK P Γ ρ h w (do Instr.storeAt t v x; pure .skip) e := by
  simp only [VR] at hv
  obtain ⟨cb, co, cc, hρ, rfl⟩ := hv
  unfold coreStore at hc
  split at hc
  · rename_i blk hblk
    split at hc
    · rename_i hrw
      simp only [Option.bind_eq_some_iff] at hc
      obtain ⟨vs, hvs, i, hi, hc⟩ := hc
      split at hc
      · rename_i hcond
        have hsol : blk.solid (cb, co, cc) := by
          refine .inl ?_
          split at hc
          · rename_i l hl
            split at hc
            · rename_i hfit; simp [hl, Cells.len]; omega
            · cases hc
          · rename_i l hl
            simp only [Option.bind_eq_some_iff, Option.map_eq_some_iff] at hc
            obtain ⟨pf, _, us, hus, rfl⟩ := hc
            have hfit : o + us.length ≤ l.length := cast (Eq.symm (hob _ (List.mem_singleton.2 rfl))) pf.h
            have := plains_eq vs hus (cells_of hvs hx)
            have h9 := (cells_of hvs hx).length
            rw [this] at h9
            simp [hl, Cells.len]; omega
          · cases hc
        obtain ⟨h0, cs, el, hcs, hlen, hgr⟩ := hI.sim.own b blk _ hblk hρ hrw hsol
        simp at h0; subst h0
        simp only at hcs
        have hrel := cells_of hvs hx
        have hvl := hrel.length
        have hone := VRs_one hrel hcond.2.1
        have hcell : ∀ i, w.cell? ⟨cb, i, none⟩ = cs[i]? := fun i => by simp [World.cell?, hcs]
        have key : ∀ (cells : Cells), o + vs.length ≤ cs.size → CellsAt ρ (w.setRow cb (cs.toList.take o ++ x.cells.toList ++ cs.toList.drop (o + x.cells.toList.length)).toArray) cb 0 cells → cells.len ≤ cs.size →
            OpOK P Γ ρ h w (do Instr.storeAt t (.pointer (some ⟨cb, 0 + o, none⟩)) x; pure .skip) { rb := [b], wb := [(b, .live { blk with cells })], val := .val undef } := by
          intro cells hfit hca hl
          have hst := run_storeCells_at P cb o el x.cells.toList 0 cs w hcs (by simp; simp at hvl; omega) hone
          simp only [Nat.add_zero] at hst
          refine ⟨ρ, _, undef, _, run_u (w' := w.setRow cb (cs.toList.take o ++ x.cells.toList ++ cs.toList.drop (o + x.cells.toList.length)).toArray) ?_, .inr ⟨rfl, rfl⟩, ρ.le_refl, by simp [VR], ?_⟩
          · simp only [Instr.storeAt, Sem.run_bind, Instr.sureAddr, Result.andThen]
            show (storeVar t ⟨cb, 0 + o, none⟩ x).run P w = _
            have hsz : x.cells.size = i.size := by rw [← hcond.1, hvl]; simp
            simp only [storeVar, Sem.run_bind, run_size hi, Result.andThen, hsz, ne_eq, not_true_eq_false, if_false, Nat.zero_add]
            exact hst
          · exact hI.write hblk hrw hρ hsol cs el hcs _ (by simp; simp at hvl; omega) cells (setRow_set w cb cs _ el hcs) rfl rfl rfl hca hl
        split at hc
        · rename_i l hl
          split at hc
          · rename_i hfit
            injection hc with hc; subst hc
            have hlc : l.length ≤ cs.size := by simpa [hl, Cells.len] using hlen
            refine key (.lit (setRange l o vs)) (by omega) ?_ (by simp [Cells.len, setRange]; omega)
            have hca := hI.sim.cells b blk _ hblk hρ
            simp only [hl] at hca
            have hold := take_of_lit hcell hlc hca
            have hL : (setRange l o vs).length = l.length := by simp [setRange]; omega
            refine lit_of_take (cs := (cs.toList.take o ++ x.cells.toList ++ cs.toList.drop (o + x.cells.toList.length)).toArray) (fun i => cell_setRow w cb cs _ el hcs i) ?_
            rw [hL]
            rw [List.toList_toArray, take_set_list _ _ _ _ (by omega) (by simpa using hlc)]
            exact hold.setRange hrel
          · cases hc
        · rename_i l hl
          simp only [Option.bind_eq_some_iff, Option.map_eq_some_iff] at hc
          obtain ⟨pf, _, us, hus, rfl⟩ := hc
          have hfit : o + us.length ≤ l.length := cast (Eq.symm (hob _ (List.mem_singleton.2 rfl))) pf.h
          have hux := plains_eq vs hus hrel
          have hlc : l.length ≤ cs.size := by simpa [hl, Cells.len] using hlen
          subst hux
          obtain ⟨r1, r2, r3, r4, k1, k2, k3, k4, k5⟩ := key (.sym (l.take o ++ x.cells.toList ++ l.drop (o + x.cells.toList.length))) (by omega) (by
            intro j v hj
            rw [Nat.zero_add, cell_setRow w cb cs _ el hcs j]
            have hca := hI.sim.cells b blk _ hblk hρ
            simp only [hl] at hca
            have hcl : ∀ k u, l[k]? = some u → cs[k]? = some u := fun k u hk => by rw [← hcell]; have := hca k u hk; rwa [Nat.zero_add] at this
            simp only [List.getElem?_toArray]
            have e1 : min o l.length = o := by omega
            have e2 : min o cs.toList.length = o := by simp; omega
            simp only [List.getElem?_append, List.length_append, List.length_take, List.getElem?_take, List.getElem?_drop, e1, e2] at hj ⊢
            split at hj
            · rename_i a1
              rw [if_pos a1]
              split at hj
              · rename_i a2
                rw [if_pos a2, if_pos a2]
                simpa using hcl j v hj
              · rename_i a2
                rw [if_neg a2]; exact hj
            · rename_i a1
              rw [if_neg a1]
              simpa using hcl _ v hj) (by have := hfit; simp [Cells.len] at this ⊢; omega)
          exact ⟨r1, r2, r3, r4, k1, k2, k3, k4, k5⟩
        · cases hc
      · cases hc
    · cases hc
  · cases hc
end Go.Ab
namespace Go.Ab
def plainVal (E : Operand → AV) (x : Operand) : Value := ((E x).plain?).getD undef
def isSelect : Op → Bool
  | .select .. => true
  | _ => false
def corePlain (P : Program) (o : Oper) (E : Operand → AV) : Option Eff :=
  if o.op.operands.all (fun x => (E x).plain?.isSome) = true ∧ isSelect o.op = false then
    match still P (execOp (plainVal E) o) with
    | some (.value v) => some { val := ofValue v }
    | _ => none
  else none
theorem corePlain_ok {P : Program} {Γ : Ctx} {ρ : Ren} {h : Heap} {w : World} (hI : Inv Γ ρ h w) {o : Oper} {E : Operand → AV} {C : Operand → Value} (hE : ∀ x ∈ o.op.operands, VR ρ (E x) (C x)) {e : Eff} (hc : corePlain P o E = some e) :
    OpOK P Γ ρ h w (execOp C o) e := by
  unfold corePlain at hc
  split at hc
  · rename_i hall
    have hsel : ∀ cs b, o.op ≠ .select cs b := fun cs b hs => by simp [hs, isSelect] at hall
    have hEC : execOp C o = execOp (plainVal E) o := by
      refine execOp_congr o hsel fun x hx => ?_
      have hp := Array.all_eq_true_iff_forall_mem.1 hall.1 x hx
      obtain ⟨v, hv⟩ := Option.isSome_iff_exists.1 hp
      rw [plainVal, hv]
      exact plain_eq _ hv (hE x hx)
    split at hc
    · rename_i v hs
      injection hc with hc; subst hc
      exact .pure hI v (by rw [hEC]; exact still_run _ hs w) (VR_ofValue ρ v) rfl
    · cases hc
  · cases hc
def fieldOf (P : Program) (s : TypeId) (f : Nat) : Option Field :=
  match P.underlying s with
  | some (.struct fs) => fs[f]?
  | _ => none
def coreFieldAddr (P : Program) (s : TypeId) (b o f : Nat) : Option Eff :=
  (fieldOf P s f).bind fun fd => (P.info? fd.type).bind fun i => if i.size = 0 then none else some { val := .ptr b (o + fd.offset) }
theorem coreFieldAddr_ok {P : Program} {Γ : Ctx} {ρ : Ren} {h : Heap} {w : World} (hI : Inv Γ ρ h w) {s : TypeId} {b o f : Nat} {v : Value} (hv : VR ρ (.ptr b o) v) {e : Eff} (hc : coreFieldAddr P s b o f = some e) :
    OpOK P Γ ρ h w (do pure (.value (← Instr.fieldAt s v f))) e := by
  simp only [VR] at hv
  obtain ⟨cb, co, cc, hρ, rfl⟩ := hv
  simp only [coreFieldAddr, fieldOf, Option.bind_eq_some_iff] at hc
  obtain ⟨fd, hfd, i, hi, hc⟩ := hc
  split at hc
  · cases hc
  · rename_i hsz
    injection hc with hc; subst hc
    split at hfd
    · rename_i fs hu
      refine .pure hI (.pointer (some ⟨cb, co + (o + fd.offset), none⟩)) (run_v ?_) (by simp only [VR]; exact ⟨cb, co, cc, hρ, rfl⟩) rfl
      simp only [Instr.fieldAt, Sem.run_bind, run_underlying' hu, Result.andThen, hfd, Instr.sureAddr]
      simp only [fieldPlace, Sem.run_bind, run_size hi, Result.andThen, hsz, if_false, pure, Sem.run, add_lit, Nat.add_assoc]
    · cases hfd
def coreField (P : Program) (s : TypeId) (f : Nat) (a : AV) : Option Eff :=
  match a with
  | .agg cs => (fieldOf P s f).bind fun fd => (partA P fd.type cs fd.offset).map fun r => { val := r }
  | _ => none
theorem coreField_ok {P : Program} {Γ : Ctx} {ρ : Ren} {h : Heap} {w : World} (hI : Inv Γ ρ h w) {s : TypeId} {f : Nat} {a : AV} {v : Value} (hv : VR ρ a v) {e : Eff} (hc : coreField P s f a = some e) :
    OpOK P Γ ρ h w (do pure (.value (← Instr.field s v f))) e := by
  unfold coreField at hc
  split at hc
  · rename_i cs
    simp only [VR] at hv
    obtain ⟨us, rfl, hus⟩ := hv
    simp only [fieldOf, Option.bind_eq_some_iff, Option.map_eq_some_iff] at hc
    obtain ⟨fd, hfd, r, hr, rfl⟩ := hc
    split at hfd
    · rename_i fs hu
      obtain ⟨v, h1, h2⟩ := partA_ok hr hus w
      refine .pure hI v (run_v ?_) h2 rfl
      simp only [Instr.field, Sem.run_bind, run_underlying' hu, Result.andThen, hfd, asAgg]
      exact h1
    · cases hfd
  · cases hc
def need (chk : Option Pf) (p : Prop) [Decidable p] (e : Eff) : Option Eff :=
  match chk with
  | some pf => some { e with ob := .prop p pf.p :: e.ob }
  | none => if p then some e else none
theorem need_some {chk : Option Pf} {p : Prop} [Decidable p] {e e' : Eff} (h : need chk p e = some e') (hob : ∀ q ∈ e'.ob, q.holds) : p ∧ (∀ q ∈ e.ob, q.holds) ∧ e'.rb = e.rb ∧ e'.wb = e.wb ∧ e'.val = e.val := by
  unfold need at h
  split at h
  · rename_i pf
    injection h with h; subst h
    exact ⟨cast (Eq.symm (hob _ (List.mem_cons_self ..))) pf.h, fun q hq => hob q (List.mem_cons_of_mem _ hq), rfl, rfl, rfl⟩
  · split at h
    · rename_i hp
      injection h with h; subst h
      exact ⟨hp, hob, rfl, rfl, rfl⟩
    · cases h
def intOfA : AV → Option Int
  | .val (.int _ n) => some n
  | _ => none
theorem intOfA_some {ρ : Ren} {a : AV} {n : Int} {v : Value} (h : intOfA a = some n) (hv : VR ρ a v) : ∃ k, v = .int k n := by
  unfold intOfA at h
  split at h
  · injection h with h; subst h; simp only [VR] at hv; exact ⟨_, hv⟩
  · cases h
def coreIndexAddr (P : Program) (t : TypeId) (x i : AV) (chk : Option Pf) : Option Eff :=
  (intOfA i).bind fun n => match x, P.underlying t with
    | .ptr b o, some (.array len el) => (P.info? el).bind fun ie => need chk (0 ≤ n ∧ n < (len : Int)) { val := .ptr b (o + n.toNat * ie.size) }
    | .slc b o len c, some (.slice el) => (P.info? el).bind fun ie => need chk (0 ≤ n ∧ n < (len : Int)) { val := .ptr b (o + n.toNat * ie.size) }
    | _, _ => none
theorem coreIndexAddr_ok {P : Program} {Γ : Ctx} {ρ : Ren} {h : Heap} {w : World} (hI : Inv Γ ρ h w) {t : TypeId} {x i : AV} {cx ci : Value} (hx : VR ρ x cx) (hi : VR ρ i ci) {chk : Option Pf} {e : Eff} (hc : coreIndexAddr P t x i chk = some e) (hob : ∀ q ∈ e.ob, q.holds) :
    OpOK P Γ ρ h w (do pure (.value (← Instr.indexAt t cx ci))) e := by
  simp only [coreIndexAddr, Option.bind_eq_some_iff] at hc
  obtain ⟨n, hn, hc⟩ := hc
  obtain ⟨k, rfl⟩ := intOfA_some hn hi
  split at hc
  · rename_i b o len el hu
    simp only [Option.bind_eq_some_iff] at hc
    obtain ⟨ie, hie, hc⟩ := hc
    obtain ⟨hp, _, h2, h3, h4⟩ := need_some hc hob
    simp only [VR] at hx
    obtain ⟨cb, co, cc, hρ, rfl⟩ := hx
    refine .pure hI (.pointer (some ⟨cb, co + (o + n.toNat * ie.size), none⟩)) (run_v ?_) (by rw [h4]; simp only [VR]; exact ⟨cb, co, cc, hρ, rfl⟩) h3
    simp only [Instr.indexAt, Sem.run_bind, asIntOf, pure, Sem.run, Result.andThen, run_underlying' hu, Instr.sureAddr, if_pos hp, run_size hie, add_lit, Nat.add_assoc]
  · rename_i b o len c el hu
    simp only [Option.bind_eq_some_iff] at hc
    obtain ⟨ie, hie, hc⟩ := hc
    obtain ⟨hp, _, h2, h3, h4⟩ := need_some hc hob
    have hlen : 0 < len := by omega
    have : ∃ cb co cc c', ρ b = some (cb, co, cc) ∧ cx = .slice (some ⟨cb, co + o, none⟩) len c' := by
      rcases hx.slc_cases with ⟨cb, co, cc, c', h1, _, h2⟩ | ⟨h1, _⟩
      · exact ⟨cb, co, cc, c', h1, h2⟩
      · omega
    obtain ⟨cb, co, cc, c', hρ, rfl⟩ := this
    refine .pure hI (.pointer (some ⟨cb, co + (o + n.toNat * ie.size), none⟩)) (run_v ?_) (by rw [h4]; simp only [VR]; exact ⟨cb, co, cc, hρ, rfl⟩) h3
    simp only [Instr.indexAt, Sem.run_bind, asIntOf, pure, Sem.run, Result.andThen, run_underlying' hu, if_pos hp, run_size hie, add_lit, Nat.add_assoc]
  · cases hc
def coreIndex (P : Program) (t : TypeId) (x i : AV) (chk : Option Pf) : Option Eff :=
  (intOfA i).bind fun n => match x, P.underlying t with
    | .agg cs, some (.array len el) => (P.info? el).bind fun ie => (partA P el cs (n.toNat * ie.size)).bind fun r => need chk (0 ≤ n ∧ n < (len : Int)) { val := r }
    | .val (.string s), some .string => need chk (0 ≤ n ∧ n < (s.size : Int)) { val := .val (.int .u8 ((s.data.toList.getD n.toNat 0).toNat : Int)) }
    | _, _ => none
theorem coreIndex_ok {P : Program} {Γ : Ctx} {ρ : Ren} {h : Heap} {w : World} (hI : Inv Γ ρ h w) {t : TypeId} {x i : AV} {cx ci : Value} (hx : VR ρ x cx) (hi : VR ρ i ci) {chk : Option Pf} {e : Eff} (hc : coreIndex P t x i chk = some e) (hob : ∀ q ∈ e.ob, q.holds) :
    OpOK P Γ ρ h w (do pure (.value (← Instr.index t cx ci))) e := by
  simp only [coreIndex, Option.bind_eq_some_iff] at hc
  obtain ⟨n, hn, hc⟩ := hc
  obtain ⟨k, rfl⟩ := intOfA_some hn hi
  split at hc
  · rename_i cs len el hu
    simp only [Option.bind_eq_some_iff] at hc
    obtain ⟨ie, hie, r, hr, hc⟩ := hc
    obtain ⟨hp, _, h2, h3, h4⟩ := need_some hc hob
    simp only [VR] at hx
    obtain ⟨us, rfl, hus⟩ := hx
    obtain ⟨v, h5, h6⟩ := partA_ok hr hus w
    refine .pure hI v (run_v ?_) (by rw [h4]; exact h6) h3
    simp only [Instr.index, Sem.run_bind, asIntOf, pure, Sem.run, Result.andThen, run_underlying' hu, if_pos hp, run_size hie]
    exact h5
  · rename_i s hu
    obtain ⟨hp, _, h2, h3, h4⟩ := need_some hc hob
    simp only [VR] at hx
    subst hx
    refine .pure hI _ (run_v (v := .int .u8 ((s.data.toList.getD n.toNat 0).toNat : Int)) ?_) (by rw [h4]; simp [VR]) h3
    have hlt : n.toNat < s.size := by omega
    have hg : s[n.toNat]? = some (s.data.toList.getD n.toNat 0) := by
      have hlt' : n.toNat < s.data.toList.length := by simpa using hlt
      rw [List.getD_eq_getElem?_getD, List.getElem?_eq_getElem hlt']
      rw [getElem?_pos s n.toNat hlt]
      rfl
    simp only [Instr.index, Sem.run_bind, asIntOf, pure, Sem.run, Result.andThen, run_underlying' hu, if_pos hp.1, hg]
  · cases hc
def nonNil (P : Program) (t : TypeId) (a b : AV) (chk : Option Pf) : Option Eff :=
  match a, b, P.underlying t with
  | .ptr _ _, .val (.pointer none), some (.pointer _) => some { val := .any }
  | .slc b o n c, .val (.slice none 0 0), some (.slice el) => need chk (0 < n) { val := .any }
  | .fn _ _ _, .val .nilFunc, some (.func _ _ _) => some { val := .any }
  | .ifc _ _, .val .nilIface, some (.interface _) => some { val := .any }
  | _, _, _ => none
section
variable {P : Program} {t : TypeId} (w : World) (d' : Nat)
theorem equalIn_ptr {el : TypeId} (hd : P.underlying t = some (.pointer el)) (a : Addr) : (Op.equalIn (d' + 1) t (.pointer (some a)) (.pointer none)).run P w = .ok false w := by
  simp only [Op.equalIn, Sem.run_bind, run_underlying' hd, Result.andThen]; rfl
theorem equalIn_slc {el : TypeId} (hd : P.underlying t = some (.slice el)) (a : Addr) (n c : Nat) : (Op.equalIn (d' + 1) t (.slice (some a) n c) (.slice none 0 0)).run P w = .ok false w := by
  simp only [Op.equalIn, Sem.run_bind, run_underlying' hd, Result.andThen]; rfl
theorem equalIn_fn {ps rs : Array TypeId} {v : Bool} (hd : P.underlying t = some (.func ps rs v)) (f : Fn) (a b : Array Value) : (Op.equalIn (d' + 1) t (.func f a b) .nilFunc).run P w = .ok false w := by
  simp only [Op.equalIn, Sem.run_bind, run_underlying' hd, Result.andThen]; rfl
theorem equalIn_ifc {ms} (hd : P.underlying t = some (.interface ms)) (T : TypeId) (v : Value) : (Op.equalIn (d' + 1) t (.iface T v) .nilIface).run P w = .ok false w := by
  simp only [Op.equalIn, Sem.run_bind, run_underlying' hd, Result.andThen]; rfl
end
theorem nonNil_run {P : Program} {ρ : Ren} {t : TypeId} {a b : AV} {x y : Value} {chk : Option Pf} {e : Eff} (hc : nonNil P t a b chk = some e) (hob : ∀ q ∈ e.ob, q.holds) (hx : VR ρ a x) (hy : VR ρ b y) (w : World) (X Y : Operand) :
    (eqGuard .eql t X Y x y = pure () ∧ eqGuard .neq t X Y x y = pure ()) ∧ (Op.equal t x y).run P w = .ok false w ∧ (∀ op, (op = .eql ∨ op = .neq) → binOp op t x y = if op = .eql then (do pure (.bool (← Op.equal t x y))) else (do pure (.bool (!(← Op.equal t x y))))) ∧ e.rb = [] ∧ e.wb = [] := by
  unfold nonNil at hc
  split at hc
  · rename_i hu
    injection hc with hc; subst hc
    simp only [VR] at hx hy
    obtain ⟨cb, co, cc, _, rfl⟩ := hx
    subst hy
    exact ⟨⟨rfl, rfl⟩, equalIn_ptr w 9999 hu _, fun op hop => by rcases hop with rfl | rfl <;> rfl, rfl, rfl⟩
  · rename_i b o n c el hu
    obtain ⟨hp, _, h2, h3, h4⟩ := need_some hc hob
    simp only [VR] at hy
    subst hy
    have : ∃ ad c', x = .slice (some ad) n c' := by
      rcases hx.slc_cases with ⟨cb, co, cc, c', h1, _, h2⟩ | ⟨h1, _⟩
      · exact ⟨_, _, h2⟩
      · omega
    obtain ⟨ad, c', rfl⟩ := this
    exact ⟨⟨rfl, rfl⟩, equalIn_slc w 9999 hu _ _ _, fun op hop => by rcases hop with rfl | rfl <;> rfl, h2, h3⟩
  · rename_i hu
    injection hc with hc; subst hc
    simp only [VR] at hx hy
    obtain ⟨fs, cs, rfl, _⟩ := hx
    subst hy
    exact ⟨⟨rfl, rfl⟩, equalIn_fn w 9999 hu _ _ _, fun op hop => by rcases hop with rfl | rfl <;> rfl, rfl, rfl⟩
  · rename_i hu
    injection hc with hc; subst hc
    simp only [VR] at hx hy
    obtain ⟨v', rfl, _⟩ := hx
    subst hy
    exact ⟨⟨rfl, rfl⟩, equalIn_ifc w 9999 hu _ _, fun op hop => by rcases hop with rfl | rfl <;> rfl, rfl, rfl⟩
  · cases hc
def coreNil (P : Program) (op : BinOp) (t : TypeId) (a b : AV) (chk : Option Pf) : Option Eff :=
  match op with
  | .eql => (nonNil P t a b chk).map fun e => { e with val := .val (.bool false) }
  | .neq => (nonNil P t a b chk).map fun e => { e with val := .val (.bool true) }
  | _ => none
theorem coreNil_ok {P : Program} {Γ : Ctx} {ρ : Ren} {h : Heap} {w : World} (hI : Inv Γ ρ h w) {op : BinOp} {t : TypeId} {a b : AV} {x y : Value} {chk : Option Pf} {e : Eff} (hc : coreNil P op t a b chk = some e) (hob : ∀ q ∈ e.ob, q.holds) (hx : VR ρ a x) (hy : VR ρ b y) (X Y : Operand) :
    OpOK P Γ ρ h w (do pure (.value (← (do eqGuard op t X Y x y; binOp op t x y)))) e := by
  unfold coreNil at hc
  split at hc
  · simp only [Option.map_eq_some_iff] at hc
    obtain ⟨e0, h0, rfl⟩ := hc
    obtain ⟨⟨g1, g2⟩, h1, h2, h3, h4⟩ := nonNil_run h0 hob hx hy w X Y
    refine .pure hI (.bool false) (run_v ?_) (by simp [VR]) h4
    rw [g1, h2 .eql (.inl rfl)]
    simp [Sem.run_bind, h1, Result.andThen, pure, Sem.run]
  · simp only [Option.map_eq_some_iff] at hc
    obtain ⟨e0, h0, rfl⟩ := hc
    obtain ⟨⟨g1, g2⟩, h1, h2, h3, h4⟩ := nonNil_run h0 hob hx hy w X Y
    refine .pure hI (.bool true) (run_v ?_) (by simp [VR]) h4
    rw [g2, h2 .neq (.inr rfl)]
    simp [Sem.run_bind, h1, Result.andThen, pure, Sem.run]
  · cases hc
end Go.Ab
namespace Go.Ab
def Invokes (P : Program) (f : FuncId) (args : Array Value) (w : World) (R : Ending → World → Prop) : Prop :=
  match (callFunc f args).run P w with
  | .ok (.enter g as) w' => Calls P g as w' R
  | .ok (.value v) w' => R (.returned v) w'
  | _ => False
def Does (P : Program) (f : FuncId) (args : List AV) (h : Heap) (v : AV) (h' : Heap) : Prop :=
  ∀ ρ w (cargs : Array Value), Sim ρ h w → VRs ρ args cargs.toList →
    Invokes P f cargs w fun e w' => ∃ ρ' cv, e = .returned cv ∧ VR ρ' v cv ∧ Inv ⟨h.length, ρ, h, w⟩ ρ' h' w'
def renB (σ : List (Nat × Nat)) (n new b o : Nat) : Nat × Nat :=
  if b < n then match σ[b]? with
    | some (x, off) => (x, off + o)
    | none => (b, o)
  else (new + (b - n), o)
mutual
def renA (σ : List (Nat × Nat)) (n new : Nat) : AV → AV
  | .ptr b o => .ptr (renB σ n new b o).1 (renB σ n new b o).2
  | .elt b o i w f => .elt (renB σ n new b o).1 (renB σ n new b o).2 i w f
  | .slc b o k c => .slc (renB σ n new b o).1 (renB σ n new b o).2 k c
  | .fn f a b => .fn f (renL σ n new a) (renL σ n new b)
  | .agg cs => .agg (renL σ n new cs)
  | .tup vs => .tup (renL σ n new vs)
  | .ifc t v => .ifc t (renA σ n new v)
  | .any => .any
  | .val v => .val v
def renL (σ : List (Nat × Nat)) (n new : Nat) : List AV → List AV
  | [] => []
  | a :: as => renA σ n new a :: renL σ n new as
end
def renCells (σ : List (Nat × Nat)) (n new : Nat) : Cells → Cells
  | .lit l => .lit (renL σ n new l)
  | .sym l => .sym l
  | .rows l => .rows l
  | .arr s l => .arr s l
  | .arrs s l => .arrs s l
def renBlk (σ : List (Nat × Nat)) (n new : Nat) (b : Blk) : Blk := { b with cells := renCells σ n new b.cells }
theorem renL_length (σ : List (Nat × Nat)) (n new : Nat) : ∀ l, (renL σ n new l).length = l.length
  | [] => rfl
  | a :: as => by simp [renL, renL_length σ n new as]
theorem renL_get (σ : List (Nat × Nat)) (n new : Nat) : ∀ (l : List AV) (i : Nat), (renL σ n new l)[i]? = (l[i]?).map (renA σ n new)
  | [], i => by simp [renL]
  | a :: as, 0 => by simp [renL]
  | a :: as, i + 1 => by simpa [renL] using renL_get σ n new as i
theorem renCells_len (σ : List (Nat × Nat)) (n new : Nat) (c : Cells) : (renCells σ n new c).len = c.len := by
  cases c <;> simp [renCells, Cells.len, renL_length]
mutual
def okA (m : Nat) : AV → Bool
  | .ptr b _ => decide (b < m)
  | .elt b _ _ _ _ => decide (b < m)
  | .slc b _ _ _ => decide (b < m)
  | .fn _ a b => okL m a && okL m b
  | .agg cs => okL m cs
  | .tup vs => okL m vs
  | .ifc _ v => okA m v
  | .any => true
  | .val _ => true
def okL (m : Nat) : List AV → Bool
  | [] => true
  | a :: as => okA m a && okL m as
end
def okCells (m : Nat) : Cells → Bool
  | .lit l => okL m l
  | _ => true
def okEnts (m : Nat) : List Ent → Bool
  | [] => true
  | .live b :: es => okCells m b.cells && okEnts m es
  | _ :: es => okEnts m es
theorem okL_get {m : Nat} : ∀ {l : List AV} {i : Nat} {a : AV}, okL m l = true → l[i]? = some a → okA m a = true
  | [], i, a, _, h => by simp at h
  | x :: l, 0, a, h, h' => by simp [okL] at h h'; subst h'; exact h.1
  | x :: l, i + 1, a, h, h' => by simp [okL] at h h'; exact okL_get h.2 h'
theorem okEnts_get {m : Nat} : ∀ {l : List Ent} {i : Nat} {b : Blk}, okEnts m l = true → l[i]? = some (.live b) → okCells m b.cells = true
  | [], i, a, _, h => by simp at h
  | x :: l, 0, a, h, h' => by simp at h'; subst h'; simp [okEnts] at h; exact h.1
  | x :: l, i + 1, a, h, h' => by
    cases x <;> simp [okEnts] at h h'
    · exact okEnts_get h h'
    · exact okEnts_get h h'
    · exact okEnts_get h.2 h'
structure Tied (σ : List (Nat × Nat)) (n new m : Nat) (ρ ρg : Ren) : Prop where
  len : σ.length = n
  base : ρg.base = ρ.base
  old : ∀ b x off, σ[b]? = some (x, off) → ρg b = (ρ x).map fun c => (c.1, c.2.1 + off, c.2.2)
  new_ : ∀ b, n ≤ b → b < m → ρg b = ρ (new + (b - n))
theorem Tied.renB {σ : List (Nat × Nat)} {n new m : Nat} {ρ ρg : Ren} (h : Tied σ n new m ρ ρg) (b o : Nat) (hbm : b < m) :
    (∀ cb co cc, ρg b = some (cb, co, cc) → ∃ co', ρ (Ab.renB σ n new b o).1 = some (cb, co', cc) ∧ co' + (Ab.renB σ n new b o).2 = co + o) ∧
    (∀ cb co cc, ρ (Ab.renB σ n new b o).1 = some (cb, co, cc) → ∃ co', ρg b = some (cb, co', cc) ∧ co + (Ab.renB σ n new b o).2 = co' + o) := by
  unfold Ab.renB
  by_cases hb : b < n
  · rw [if_pos hb]
    have hs : b < σ.length := by rw [h.len]; exact hb
    obtain ⟨⟨x, off⟩, hx'⟩ : ∃ p, σ[b]? = some p := ⟨_, List.getElem?_eq_getElem hs⟩
    rw [hx']
    have ho := h.old b x off hx'
    constructor
    · intro cb co cc hg
      rw [ho] at hg
      simp only [Option.map_eq_some_iff] at hg
      obtain ⟨⟨c1, c2, c3⟩, h1, h2⟩ := hg
      injection h2 with e1 e2; injection e2 with e2 e3
      subst e1; subst e2; subst e3
      exact ⟨c2, h1, by simp only; omega⟩
    · intro cb co cc hg
      refine ⟨co + off, by rw [ho, hg]; rfl, by simp only; omega⟩
  · rw [if_neg hb, h.new_ b (by omega) hbm]
    exact ⟨fun cb co cc hg => ⟨co, hg, rfl⟩, fun cb co cc hg => ⟨co, hg, rfl⟩⟩
mutual
theorem VR.ren {σ : List (Nat × Nat)} {n new m : Nat} {ρ ρg : Ren} (h : Tied σ n new m ρ ρg) : ∀ (v : AV) (cv : Value), okA m v = true → (VR ρ (renA σ n new v) cv ↔ VR ρg v cv)
  | .any, cv, _ => by simp [renA, VR]
  | .val v, cv, _ => by simp [renA, VR]
  | .ptr b o, cv, hm => by
    simp only [okA, decide_eq_true_eq] at hm
    simp only [renA, VR]
    obtain ⟨h1, h2⟩ := h.renB b o hm
    constructor
    · rintro ⟨cb, co, cc, e1, rfl⟩
      obtain ⟨co', e2, e3⟩ := h2 _ _ _ e1
      exact ⟨cb, co', cc, e2, by rw [e3]⟩
    · rintro ⟨cb, co, cc, e1, rfl⟩
      obtain ⟨co', e2, e3⟩ := h1 _ _ _ e1
      exact ⟨cb, co', cc, e2, by rw [e3]⟩
  | .elt b o i w f, cv, hm => by
    simp only [okA, decide_eq_true_eq] at hm
    simp only [renA, VR]
    obtain ⟨h1, h2⟩ := h.renB b o hm
    constructor
    · rintro ⟨cb, co, cc, e1, rfl⟩
      obtain ⟨co', e2, e3⟩ := h2 _ _ _ e1
      exact ⟨cb, co', cc, e2, by congr 3; omega⟩
    · rintro ⟨cb, co, cc, e1, rfl⟩
      obtain ⟨co', e2, e3⟩ := h1 _ _ _ e1
      exact ⟨cb, co', cc, e2, by congr 3; omega⟩
  | .slc b o k (.exact c), cv, hm => by
    simp only [okA, decide_eq_true_eq] at hm
    simp only [renA, VR]
    obtain ⟨h1, h2⟩ := h.renB b o hm
    constructor
    · rintro (⟨cb, co, cc, e1, e4, rfl⟩ | hr)
      · obtain ⟨co', e2, e3⟩ := h2 _ _ _ e1
        exact .inl ⟨cb, co', cc, e2, e4, by rw [e3]⟩
      · exact .inr hr
    · rintro (⟨cb, co, cc, e1, e4, rfl⟩ | hr)
      · obtain ⟨co', e2, e3⟩ := h1 _ _ _ e1
        exact .inl ⟨cb, co', cc, e2, e4, by rw [e3]⟩
      · exact .inr hr
  | .slc b o k .unk, cv, hm => by
    simp only [okA, decide_eq_true_eq] at hm
    simp only [renA, VR]
    obtain ⟨h1, h2⟩ := h.renB b o hm
    constructor
    · rintro (⟨cb, co, cc, c', e1, e4, e5, rfl⟩ | hr)
      · obtain ⟨co', e2, e3⟩ := h2 _ _ _ e1
        exact .inl ⟨cb, co', cc, c', e2, e4, ⟨by omega, e5.2⟩, by rw [e3]⟩
      · exact .inr hr
    · rintro (⟨cb, co, cc, c', e1, e4, e5, rfl⟩ | hr)
      · obtain ⟨co', e2, e3⟩ := h1 _ _ _ e1
        exact .inl ⟨cb, co', cc, c', e2, e4, ⟨by omega, e5.2⟩, by rw [e3]⟩
      · exact .inr hr
  | .slc b o k .low, cv, hm => by
    simp only [okA, decide_eq_true_eq] at hm
    simp only [renA, VR]
    obtain ⟨h1, h2⟩ := h.renB b o hm
    constructor
    · rintro (⟨cb, co, cc, c', e1, e4, rfl⟩ | hr)
      · obtain ⟨co', e2, e3⟩ := h2 _ _ _ e1
        exact .inl ⟨cb, co', cc, c', e2, e4, by rw [e3]⟩
      · exact .inr hr
    · rintro (⟨cb, co, cc, c', e1, e4, rfl⟩ | hr)
      · obtain ⟨co', e2, e3⟩ := h1 _ _ _ e1
        exact .inl ⟨cb, co', cc, c', e2, e4, by rw [e3]⟩
      · exact .inr hr
  | .slc b o k .part, cv, hm => by
    simp only [okA, decide_eq_true_eq] at hm
    simp only [renA, VR]
    obtain ⟨h1, h2⟩ := h.renB b o hm
    constructor
    · rintro (⟨cb, co, cc, c', e1, e4, rfl⟩ | hr)
      · obtain ⟨co', e2, e3⟩ := h2 _ _ _ e1
        exact .inl ⟨cb, co', cc, c', e2, e4, by rw [e3]⟩
      · exact .inr hr
    · rintro (⟨cb, co, cc, c', e1, e4, rfl⟩ | hr)
      · obtain ⟨co', e2, e3⟩ := h1 _ _ _ e1
        exact .inl ⟨cb, co', cc, c', e2, e4, by rw [e3]⟩
      · exact .inr hr
  | .slc b o k .nn, cv, hm => by
    simp only [okA, decide_eq_true_eq] at hm
    simp only [renA, VR]
    obtain ⟨h1, h2⟩ := h.renB b o hm
    constructor
    · rintro (⟨cb, co, cc, c', e1, e4, rfl⟩ | hr)
      · obtain ⟨co', e2, e3⟩ := h2 _ _ _ e1
        exact .inl ⟨cb, co', cc, c', e2, e4, by rw [e3]⟩
      · exact .inr hr
    · rintro (⟨cb, co, cc, c', e1, e4, rfl⟩ | hr)
      · obtain ⟨co', e2, e3⟩ := h1 _ _ _ e1
        exact .inl ⟨cb, co', cc, c', e2, e4, by rw [e3]⟩
      · exact .inr hr
  | .fn f a b, cv, hm => by
    simp only [okA, Bool.and_eq_true] at hm
    simp only [renA, VR]
    constructor
    · rintro ⟨x, y, e, h1, h2⟩; exact ⟨x, y, by rw [e, h.base], (VRs.ren h a _ hm.1).1 h1, (VRs.ren h b _ hm.2).1 h2⟩
    · rintro ⟨x, y, e, h1, h2⟩; exact ⟨x, y, by rw [e, h.base], (VRs.ren h a _ hm.1).2 h1, (VRs.ren h b _ hm.2).2 h2⟩
  | .agg cs, cv, hm => by
    simp only [okA] at hm
    simp only [renA, VR]
    constructor
    · rintro ⟨x, e, h1⟩; exact ⟨x, e, (VRs.ren h cs _ hm).1 h1⟩
    · rintro ⟨x, e, h1⟩; exact ⟨x, e, (VRs.ren h cs _ hm).2 h1⟩
  | .tup cs, cv, hm => by
    simp only [okA] at hm
    simp only [renA, VR]
    constructor
    · rintro ⟨x, e, h1⟩; exact ⟨x, e, (VRs.ren h cs _ hm).1 h1⟩
    · rintro ⟨x, e, h1⟩; exact ⟨x, e, (VRs.ren h cs _ hm).2 h1⟩
  | .ifc t v, cv, hm => by
    simp only [okA] at hm
    simp only [renA, VR]
    constructor
    · rintro ⟨x, e, h1⟩; exact ⟨x, e, (VR.ren h v _ hm).1 h1⟩
    · rintro ⟨x, e, h1⟩; exact ⟨x, e, (VR.ren h v _ hm).2 h1⟩
theorem VRs.ren {σ : List (Nat × Nat)} {n new m : Nat} {ρ ρg : Ren} (h : Tied σ n new m ρ ρg) : ∀ (l : List AV) (cl : List Value), okL m l = true → (VRs ρ (renL σ n new l) cl ↔ VRs ρg l cl)
  | [], [], _ => by simp [renL, VRs]
  | a :: as, v :: vs, hm => by
    simp only [okL, Bool.and_eq_true] at hm
    simp only [renL, VRs]
    rw [VR.ren h a v hm.1, VRs.ren h as vs hm.2]
  | [], _ :: _, _ => by simp [renL, VRs]
  | _ :: _, [], _ => by simp [renL, VRs]
end
theorem CellsAt.ren {σ : List (Nat × Nat)} {n new m : Nat} {ρ ρg : Ren} (h : Tied σ n new m ρ ρg) (w : World) (cb co : Nat) (cs : Cells) (hm : okCells m cs = true) : CellsAt ρ w cb co (renCells σ n new cs) ↔ CellsAt ρg w cb co cs := by
  cases cs with
  | sym l => rfl
  | rows l => simp only [renCells, CellsAt, h.base]
  | arr s l => rfl
  | arrs s l => simp only [renCells, CellsAt, h.base]
  | lit l =>
    simp only [renCells, CellsAt]
    constructor
    · intro hc i v hi
      obtain ⟨cv, h1, h2⟩ := hc i (renA σ n new v) (by rw [renL_get, hi]; rfl)
      exact ⟨cv, h1, (VR.ren h v cv (okL_get hm hi)).1 h2⟩
    · intro hc i v hi
      rw [renL_get] at hi
      simp only [Option.map_eq_some_iff] at hi
      obtain ⟨u, hu, rfl⟩ := hi
      obtain ⟨cv, h1, h2⟩ := hc i u hu
      exact ⟨cv, h1, (VR.ren h u cv (okL_get hm hu)).2 h2⟩
def AV.adapt1 (e a : AV) : AV :=
  match e, a with
  | .any, _ => .any
  | .slc _ _ _ .low, .slc b o n _ => .slc b o n .low
  | .slc b o 0 .low, .val (.slice none 0 0) => .slc b o 0 .low
  | _, a => a
mutual
def adapt : AV → AV → AV
  | .agg es, .agg as => .agg (adapts es as)
  | .fn _ a b, .fn f x y => .fn f (adapts a x) (adapts b y)
  | e, a => e.adapt1 a
def adapts : List AV → List AV → List AV
  | e :: es, a :: as => adapt e a :: adapts es as
  | _, as => as
end
theorem VR.adapt1 {ρ : Ren} (e a : AV) {cv : Value} (h : VR ρ a cv) : VR ρ (e.adapt1 a) cv := by
  unfold AV.adapt1
  split
  · simp [VR]
  · rcases h.slc_cases with h | h
    · simp only [VR]; exact .inl h
    · simp only [VR]; exact .inr h
  · simp only [VR] at h; subst h; simp [VR]
  · exact h
mutual
theorem VR.adapt {ρ : Ren} : ∀ (e a : AV) {cv : Value}, VR ρ a cv → VR ρ (Ab.adapt e a) cv := by
  intro e a cv h
  unfold Ab.adapt
  split
  · rename_i es as
    simp only [VR] at h ⊢
    obtain ⟨x, h1, h2⟩ := h
    exact ⟨x, h1, VRs.adapt es as h2⟩
  · rename_i f0 a b f x y
    simp only [VR] at h ⊢
    obtain ⟨fs, cs, h1, h2, h3⟩ := h
    exact ⟨fs, cs, h1, VRs.adapt a x h2, VRs.adapt b y h3⟩
  · exact h.adapt1 _ _
theorem VRs.adapt {ρ : Ren} : ∀ (es as : List AV) {cvs : List Value}, VRs ρ as cvs → VRs ρ (Ab.adapts es as) cvs
  | e :: es, a :: as, [], h => by simp [VRs] at h
  | e :: es, a :: as, v :: vs, h => by
    simp only [Ab.adapts, VRs] at *
    exact ⟨VR.adapt e a h.1, VRs.adapt es as h.2⟩
  | [], as, _, h => by simpa [Ab.adapts] using h
  | e :: es, [], _, h => by simpa [Ab.adapts] using h
end
end Go.Ab
namespace Go.Ab
structure CallR (P : Program) where
  f : FuncId
  args : List AV
  h : Heap
  v : AV
  h' : Heap
  σ : List (Nat × Nat)
  pf : Does P f args h v h'
def CallR.mk' {P : Program} {f : FuncId} {args : List AV} {h : Heap} {v : AV} {h' : Heap} (σ : List (Nat × Nat)) (pf : Does P f args h v h') : CallR P := ⟨f, args, h, v, h', σ, pf⟩
def roMatch (σ : List (Nat × Nat)) (n new off : Nat) (cb : Cells) (want : Cells) : Ob :=
  match want, cb with
  | .sym l, .sym l' => if off = 0 then .vals l' l else .vals ((l'.drop off).take l.length) l
  | .sym l, .lit l' => .ovals (AV.plains? ((l'.drop off).take l.length)) (some l)
  | .lit l, .lit l' => .avs ((l'.drop off).take l.length) (renL σ n new l)
  | .lit l, .sym l' => .ovals (AV.plains? l) (some ((l'.drop off).take l.length))
  | .rows l, .rows l' => if off = 0 then .rows l' l else .prop False True
  | .arr s l, .arr s' l' => if off = 0 then .blk ⟨.arr s' l', false, none⟩ ⟨.arr s l, false, none⟩ else .prop False True
  | _, _ => .prop False True
def footBlocks (H : Nat → Ent) (σ : List (Nat × Nat)) (n new : Nat) : List (Nat × Nat) → List Ent → List Ent → Option (List Ob × List (Nat × Ent))
  | (x, off) :: s, e :: es, e' :: es' =>
    match e with
    | .free => none
    | .dead => footBlocks H σ n new s es es'
    | .live blk => match H x with
      | .live cb =>
        if blk.rw = true then
          if off = 0 then
            match e' with
            | .live blk' => if blk'.rw = true then (footBlocks H σ n new s es es').map fun r => (Ob.blk cb (renBlk σ n new blk) :: r.1, (x, .live (renBlk σ n new blk')) :: r.2) else none
            | _ => (footBlocks H σ n new s es es').map fun r => (Ob.blk cb (renBlk σ n new blk) :: r.1, (x, .dead) :: r.2)
          else none
        else (footBlocks H σ n new s es es').map fun r => (roMatch σ n new off cb.cells blk.cells :: r.1, r.2)
      | _ => none
  | [], [], _ => some ([], [])
  | _, _, _ => none
def newBlocks (σ : List (Nat × Nat)) (n new : Nat) : Nat → List Ent → Option (List (Nat × Ent))
  | _, [] => some []
  | k, .live blk :: es => if blk.rw = true then (newBlocks σ n new (k + 1) es).map ((new + k, .live (renBlk σ n new blk)) :: ·) else none
  | k, _ :: es => (newBlocks σ n new (k + 1) es).map ((new + k, .dead) :: ·)
def apartσ : List (Nat × Nat) → List Ent → Bool
  | (x, _) :: s, e :: es => (match e with
      | .live blk => (s.zip es).all fun q => match q.2 with
        | .live blk' => (!blk.rw && !blk'.rw) || q.1.1 != x
        | _ => true
      | _ => true) && apartσ s es
  | _, _ => true
mutual
theorem VR_of_plain {ρ : Ren} : ∀ (a : AV) {v : Value}, a.plain? = some v → VR ρ a v
  | .val u, v, h => by simp [AV.plain?] at h; subst h; simp [VR]
  | .agg cs, v, h => by
    simp only [AV.plain?, Option.map_eq_some_iff] at h
    obtain ⟨l, h1, rfl⟩ := h
    simp only [VR]; exact ⟨_, rfl, by simpa using VRs_of_plain cs h1⟩
  | .tup cs, v, h => by
    simp only [AV.plain?, Option.map_eq_some_iff] at h
    obtain ⟨l, h1, rfl⟩ := h
    simp only [VR]; exact ⟨_, rfl, by simpa using VRs_of_plain cs h1⟩
  | .ifc t u, v, h => by
    simp only [AV.plain?, Option.map_eq_some_iff] at h
    obtain ⟨l, h1, rfl⟩ := h
    simp only [VR]; exact ⟨_, rfl, VR_of_plain u h1⟩
  | .fn f a b, v, h => by
    cases f with
    | func f =>
      simp only [AV.plain?, Option.bind_eq_some_iff, Option.map_eq_some_iff] at h
      obtain ⟨x, h1, y, h2, rfl⟩ := h
      simp only [VR]; exact ⟨_, _, rfl, by simpa using VRs_of_plain a h1, by simpa using VRs_of_plain b h2⟩
    | _ => simp [AV.plain?] at h
  | .any, _, h => by simp [AV.plain?] at h
  | .ptr .., _, h => by simp [AV.plain?] at h
  | .elt .., _, h => by simp [AV.plain?] at h
  | .slc .., _, h => by simp [AV.plain?] at h
theorem VRs_of_plain {ρ : Ren} : ∀ (as : List AV) {vs : List Value}, AV.plains? as = some vs → VRs ρ as vs
  | [], vs, h => by simp [AV.plains?] at h; subst h; simp [VRs]
  | a :: as, vs, h => by
    simp only [AV.plains?, Option.bind_eq_some_iff, Option.map_eq_some_iff] at h
    obtain ⟨v, h1, l, h2, rfl⟩ := h
    simp only [VRs]; exact ⟨VR_of_plain a h1, VRs_of_plain as h2⟩
end
theorem get_upds : ∀ (wb : List (Nat × Ent)) (h : Heap) (x : Nat), (∃ e, (x, e) ∈ wb ∧ (h.upds wb).get x = e) ∨ ((∀ e, (x, e) ∉ wb) ∧ (h.upds wb).get x = h.get x)
  | [], h, x => .inr ⟨by simp, rfl⟩
  | (b, e) :: wb, h, x => by
    simp only [Heap.upds]
    rcases get_upds wb (h.upd b e) x with ⟨e', h1, h2⟩ | ⟨h1, h2⟩
    · exact .inl ⟨e', List.mem_cons_of_mem _ h1, h2⟩
    · rw [Heap.get_upd] at h2
      by_cases hx : x = b
      · subst hx
        rw [if_pos rfl] at h2
        exact .inl ⟨e, List.mem_cons_self .., h2⟩
      · rw [if_neg hx] at h2
        refine .inr ⟨fun e' he => ?_, h2⟩
        rcases List.mem_cons.1 he with he | he
        · injection he with e1 e2; exact hx e1
        · exact h1 e' he
theorem foot_spec {H : Nat → Ent} {σ : List (Nat × Nat)} {n new : Nat} : ∀ (s : List (Nat × Nat)) (es es' : List Ent) (r : List Ob × List (Nat × Ent)), footBlocks H σ n new s es es' = some r →
    (∀ i, i < es.length → ∃ (x off : Nat), s[i]? = some (x, off) ∧ es[i]? ≠ some .free ∧
      (∀ blk : Blk, es[i]? = some (.live blk) → ∃ cb, H x = .live cb ∧
        ((blk.rw = true ∧ off = 0 ∧ Ob.blk cb (renBlk σ n new blk) ∈ r.1 ∧ ((∃ blk' : Blk, es'[i]? = some (.live blk') ∧ blk'.rw = true ∧ (x, .live (renBlk σ n new blk')) ∈ r.2) ∨ ((∀ blk' : Blk, es'[i]? ≠ some (.live blk')) ∧ (x, .dead) ∈ r.2))) ∨
         (blk.rw = false ∧ roMatch σ n new off cb.cells blk.cells ∈ r.1)))) ∧
    (∀ x e, (x, e) ∈ r.2 → ∃ (i off : Nat) (blk : Blk), s[i]? = some (x, off) ∧ es[i]? = some (.live blk) ∧ blk.rw = true ∧ ((∃ blk' : Blk, es'[i]? = some (.live blk') ∧ blk'.rw = true ∧ e = .live (renBlk σ n new blk')) ∨ e = .dead))
  | [], [], es', r, hr => by
    simp only [footBlocks] at hr; injection hr with hr; subst hr
    exact ⟨fun i hi => by simp at hi, fun x e he => by simp at he⟩
  | (x, off) :: s, [], es', r, hr => by cases es' <;> simp [footBlocks] at hr
  | [], e :: es, es', r, hr => by cases es' <;> simp [footBlocks] at hr
  | (x, off) :: s, e :: es, [], r, hr => by simp [footBlocks] at hr
  | (x, off) :: s, e :: es, e' :: es', r, hr => by
    have shift : ∀ (r0 : List Ob × List (Nat × Ent)), footBlocks H σ n new s es es' = some r0 → (∀ p ∈ r0.1, p ∈ r.1) → (∀ q ∈ r0.2, q ∈ r.2) →
        ∀ i, i < es.length → ∃ (x' off' : Nat), ((x, off) :: s)[i + 1]? = some (x', off') ∧ (e :: es)[i + 1]? ≠ some .free ∧
      (∀ blk : Blk, (e :: es)[i + 1]? = some (.live blk) → ∃ cb, H x' = .live cb ∧
        ((blk.rw = true ∧ off' = 0 ∧ Ob.blk cb (renBlk σ n new blk) ∈ r.1 ∧ ((∃ blk' : Blk, (e' :: es')[i + 1]? = some (.live blk') ∧ blk'.rw = true ∧ (x', .live (renBlk σ n new blk')) ∈ r.2) ∨ ((∀ blk' : Blk, (e' :: es')[i + 1]? ≠ some (.live blk')) ∧ (x', .dead) ∈ r.2))) ∨
         (blk.rw = false ∧ roMatch σ n new off' cb.cells blk.cells ∈ r.1))) := by
      intro r0 h0 hp hq i hi
      obtain ⟨x', off', h1, h2, h3⟩ := (foot_spec s es es' r0 h0).1 i hi
      refine ⟨x', off', by simpa using h1, by simpa using h2, fun blk hb => ?_⟩
      obtain ⟨cb, h4, h5⟩ := h3 blk (by simpa using hb)
      refine ⟨cb, h4, ?_⟩
      rcases h5 with ⟨a1, a2, a3, a4⟩ | ⟨a1, a2⟩
      · refine .inl ⟨a1, a2, hp _ a3, ?_⟩
        rcases a4 with ⟨b', c1, c2, c3⟩ | ⟨c1, c2⟩
        · exact .inl ⟨b', by simpa using c1, c2, hq _ c3⟩
        · exact .inr ⟨by simpa using c1, hq _ c2⟩
      · exact .inr ⟨a1, hp _ a2⟩
    have shift2 : ∀ (r0 : List Ob × List (Nat × Ent)), footBlocks H σ n new s es es' = some r0 → ∀ y u, (y, u) ∈ r0.2 → ∃ (i off' : Nat) (blk : Blk), ((x, off) :: s)[i]? = some (y, off') ∧ (e :: es)[i]? = some (.live blk) ∧ blk.rw = true ∧ ((∃ blk' : Blk, (e' :: es')[i]? = some (.live blk') ∧ blk'.rw = true ∧ u = .live (renBlk σ n new blk')) ∨ u = .dead) := by
      intro r0 h0 y u hy
      obtain ⟨i, off', blk, h1, h2, h3, h4⟩ := (foot_spec s es es' r0 h0).2 y u hy
      exact ⟨i + 1, off', blk, by simpa using h1, by simpa using h2, h3, by simpa using h4⟩
    cases e with
    | free => simp [footBlocks] at hr
    | dead =>
      simp only [footBlocks] at hr
      refine ⟨fun i hi => ?_, shift2 r hr⟩
      cases i with
      | zero => exact ⟨x, off, rfl, by simp, fun blk hb => by simp at hb⟩
      | succ i => exact shift r hr (fun _ h => h) (fun _ h => h) i (by simpa using hi)
    | live blk =>
      simp only [footBlocks] at hr
      cases hH : H x with
      | free => simp [hH] at hr
      | dead => simp [hH] at hr
      | live cb =>
        simp only [hH] at hr
        by_cases hrw : blk.rw = true
        · rw [if_pos hrw] at hr
          by_cases hoff : off = 0
          · rw [if_pos hoff] at hr
            cases e' with
            | live blk' =>
              simp only at hr
              by_cases hrw' : blk'.rw = true
              · rw [if_pos hrw'] at hr
                simp only [Option.map_eq_some_iff] at hr
                obtain ⟨r0, h0, rfl⟩ := hr
                refine ⟨fun i hi => ?_, fun y u hy => ?_⟩
                · cases i with
                  | zero =>
                    refine ⟨x, off, rfl, by simp, fun b hb => ?_⟩
                    simp at hb; subst hb
                    exact ⟨cb, hH, .inl ⟨hrw, hoff, List.mem_cons_self .., .inl ⟨blk', rfl, hrw', List.mem_cons_self ..⟩⟩⟩
                  | succ i => exact shift r0 h0 (fun _ h => List.mem_cons_of_mem _ h) (fun _ h => List.mem_cons_of_mem _ h) i (by simpa using hi)
                · rcases List.mem_cons.1 hy with hy | hy
                  · injection hy with e1 e2; subst e1; subst e2
                    exact ⟨0, off, blk, rfl, rfl, hrw, .inl ⟨blk', rfl, hrw', rfl⟩⟩
                  · exact shift2 r0 h0 y u hy
              · rw [if_neg hrw'] at hr; cases hr
            | dead =>
              simp only [Option.map_eq_some_iff] at hr
              obtain ⟨r0, h0, rfl⟩ := hr
              refine ⟨fun i hi => ?_, fun y u hy => ?_⟩
              · cases i with
                | zero =>
                  refine ⟨x, off, rfl, by simp, fun b hb => ?_⟩
                  simp at hb; subst hb
                  exact ⟨cb, hH, .inl ⟨hrw, hoff, List.mem_cons_self .., .inr ⟨by simp, List.mem_cons_self ..⟩⟩⟩
                | succ i => exact shift r0 h0 (fun _ h => List.mem_cons_of_mem _ h) (fun _ h => List.mem_cons_of_mem _ h) i (by simpa using hi)
              · rcases List.mem_cons.1 hy with hy | hy
                · injection hy with e1 e2; subst e1; subst e2
                  exact ⟨0, off, blk, rfl, rfl, hrw, .inr rfl⟩
                · exact shift2 r0 h0 y u hy
            | free =>
              simp only [Option.map_eq_some_iff] at hr
              obtain ⟨r0, h0, rfl⟩ := hr
              refine ⟨fun i hi => ?_, fun y u hy => ?_⟩
              · cases i with
                | zero =>
                  refine ⟨x, off, rfl, by simp, fun b hb => ?_⟩
                  simp at hb; subst hb
                  exact ⟨cb, hH, .inl ⟨hrw, hoff, List.mem_cons_self .., .inr ⟨by simp, List.mem_cons_self ..⟩⟩⟩
                | succ i => exact shift r0 h0 (fun _ h => List.mem_cons_of_mem _ h) (fun _ h => List.mem_cons_of_mem _ h) i (by simpa using hi)
              · rcases List.mem_cons.1 hy with hy | hy
                · injection hy with e1 e2; subst e1; subst e2
                  exact ⟨0, off, blk, rfl, rfl, hrw, .inr rfl⟩
                · exact shift2 r0 h0 y u hy
          · rw [if_neg hoff] at hr; cases hr
        · rw [if_neg hrw] at hr
          simp only [Option.map_eq_some_iff] at hr
          obtain ⟨r0, h0, rfl⟩ := hr
          refine ⟨fun i hi => ?_, shift2 r0 h0⟩
          cases i with
          | zero =>
            refine ⟨x, off, rfl, by simp, fun b hb => ?_⟩
            simp at hb; subst hb
            exact ⟨cb, hH, .inr ⟨by simpa using hrw, List.mem_cons_self ..⟩⟩
          | succ i => exact shift r0 h0 (fun _ h => List.mem_cons_of_mem _ h) (fun _ h => h) i (by simpa using hi)
theorem new_spec {σ : List (Nat × Nat)} {n new : Nat} : ∀ (es : List Ent) (k : Nat) (r : List (Nat × Ent)), newBlocks σ n new k es = some r →
    (∀ (i : Nat) (blk : Blk), es[i]? = some (.live blk) → blk.rw = true) ∧
    (∀ i, i < es.length → ∃ e, (new + (k + i), e) ∈ r) ∧
    (∀ x e, (x, e) ∈ r → ∃ i, i < es.length ∧ x = new + (k + i) ∧ ((∃ blk : Blk, es[i]? = some (.live blk) ∧ e = .live (renBlk σ n new blk)) ∨ ((∀ blk : Blk, es[i]? ≠ some (.live blk)) ∧ e = .dead)))
  | [], k, r, hr => by
    simp only [newBlocks] at hr; injection hr with hr; subst hr
    exact ⟨fun i blk h => by simp at h, fun i hi => by simp at hi, fun x e he => by simp at he⟩
  | e0 :: es, k, r, hr => by
    have step : ∀ (r0 : List (Nat × Ent)) (u : Ent), newBlocks σ n new (k + 1) es = some r0 → r = (new + k, u) :: r0 → (∀ blk : Blk, e0 = .live blk → blk.rw = true) → ((∃ blk : Blk, e0 = .live blk ∧ u = .live (renBlk σ n new blk)) ∨ ((∀ blk : Blk, e0 ≠ .live blk) ∧ u = .dead)) →
        (∀ (i : Nat) (blk : Blk), (e0 :: es)[i]? = some (.live blk) → blk.rw = true) ∧ (∀ i, i < (e0 :: es).length → ∃ e, (new + (k + i), e) ∈ r) ∧
        (∀ x e, (x, e) ∈ r → ∃ i, i < (e0 :: es).length ∧ x = new + (k + i) ∧ ((∃ blk : Blk, (e0 :: es)[i]? = some (.live blk) ∧ e = .live (renBlk σ n new blk)) ∨ ((∀ blk : Blk, (e0 :: es)[i]? ≠ some (.live blk)) ∧ e = .dead))) := by
      intro r0 u h0 hr' hrw hu
      subst hr'
      obtain ⟨i1, i2, i3⟩ := new_spec es (k + 1) r0 h0
      refine ⟨fun i blk hb => ?_, fun i hi => ?_, fun x e he => ?_⟩
      · cases i with
        | zero => simp at hb; exact hrw blk hb
        | succ i => exact i1 i blk (by simpa using hb)
      · cases i with
        | zero => exact ⟨u, by simp⟩
        | succ i =>
          obtain ⟨e, he⟩ := i2 i (by simpa using hi)
          exact ⟨e, List.mem_cons_of_mem _ (by rw [show k + (i + 1) = k + 1 + i by omega]; exact he)⟩
      · rcases List.mem_cons.1 he with he | he
        · injection he with e1 e2; subst e1; subst e2
          refine ⟨0, by simp, by simp, ?_⟩
          rcases hu with ⟨blk, h1, h2⟩ | ⟨h1, h2⟩
          · exact .inl ⟨blk, by simp [h1], h2⟩
          · exact .inr ⟨fun blk hb => h1 blk (by simpa using hb), h2⟩
        · obtain ⟨i, j1, j2, j3⟩ := i3 x e he
          exact ⟨i + 1, by simp; omega, by omega, by simpa using j3⟩
    cases e0 with
    | live blk =>
      simp only [newBlocks] at hr
      split at hr
      · rename_i hrw
        simp only [Option.map_eq_some_iff] at hr
        obtain ⟨r0, h0, rfl⟩ := hr
        exact step r0 _ h0 rfl (fun b hb => by injection hb with hb; subst hb; exact hrw) (.inl ⟨blk, rfl, rfl⟩)
      · cases hr
    | dead =>
      simp only [newBlocks, Option.map_eq_some_iff] at hr
      obtain ⟨r0, h0, rfl⟩ := hr
      exact step r0 _ h0 rfl (fun b hb => by cases hb) (.inr ⟨(fun b hb => by cases hb), rfl⟩)
    | free =>
      simp only [newBlocks, Option.map_eq_some_iff] at hr
      obtain ⟨r0, h0, rfl⟩ := hr
      exact step r0 _ h0 rfl (fun b hb => by cases hb) (.inr ⟨(fun b hb => by cases hb), rfl⟩)
theorem apartσ_spec : ∀ (s : List (Nat × Nat)) (es : List Ent), apartσ s es = true → ∀ (i j x y a b : Nat) (blk blk' : Blk), i < j → s[i]? = some (x, a) → s[j]? = some (y, b) → es[i]? = some (.live blk) → es[j]? = some (.live blk') → (blk.rw = true ∨ blk'.rw = true) → x ≠ y
  | [], es, _, i, j, x, y, a, b, blk, blk', _, h1, _, _, _, _ => by simp at h1
  | _ :: _, [], _, i, j, x, y, a, b, blk, blk', _, _, _, h3, _, _ => by simp at h3
  | (x0, a0) :: s, e0 :: es, h, i, j, x, y, a, b, blk, blk', hij, h1, h2, h3, h4, h5 => by
    simp only [apartσ, Bool.and_eq_true] at h
    obtain ⟨ha, hb⟩ := h
    cases j with
    | zero => omega
    | succ j =>
      cases i with
      | zero =>
        simp at h1 h3 h2 h4
        obtain ⟨rfl, rfl⟩ := h1
        subst h3
        simp only [List.all_eq_true] at ha
        have := ha ((y, b), .live blk') (List.mem_of_getElem? (i := j) (by simp [List.getElem?_zip_eq_some, h2, h4]))
        simp only [Bool.or_eq_true, Bool.and_eq_true, Bool.not_eq_true', bne_iff_ne, ne_eq] at this
        rcases this with ⟨c1, c2⟩ | c
        · rcases h5 with h5 | h5
          · rw [c1] at h5; cases h5
          · rw [c2] at h5; cases h5
        · exact fun e => c e.symm
      | succ i => exact apartσ_spec s es hb i j x y a b blk blk' (by omega) (by simpa using h1) (by simpa using h2) (by simpa using h3) (by simpa using h4) h5
end Go.Ab
namespace Go.Ab
def frF (r : Option Nat) : Fence := { Fence.wide with round := r }
theorem callsIn_frF {r : Option Nat} {n : Nat} {P : Program} {f : FuncId} {args : Array Value} {w : World} {R : Ending → World → Prop} (h : Calls P f args w R) : CallsIn (frF r) n P f args w R :=
  (callsIn_wide (n := n)).2 h
def LStep (P : Program) (Γ : Ctx) (o : Oper) (ρ : Ren) (h : Heap) (w : World) (a : Act) (e : Eff) : Prop :=
  (∀ c, o.op ≠ .defer c) → ∀ (r : Option Nat) K Qc, (∀ ρ' w' cv, ρ.le ρ' → VR ρ' e.val cv → Inv Γ ρ' (h.upds e.wb) w' → K (a.put o.dst cv) w') → o.wpIn (frF r) 0 P a w K Qc
theorem lstep_of_ok {P : Program} {Γ : Ctx} {o : Oper} {ρ : Ren} {h : Heap} {w : World} {a : Act} {e : Eff} (hok : OpOK P Γ ρ h w (execOp a.eval o) e) : LStep P Γ o ρ h w a e := by
  intro hnd r K Qc hK
  obtain ⟨ρ', nx, cv, w', hr, hn, h1, h2, h3⟩ := hok
  unfold Oper.wpIn
  refine ⟨fun _ _ => trivial, ?_⟩
  rw [Oper.semAt_eq _ _ _ hnd, hr]
  rcases hn with rfl | ⟨rfl, rfl⟩
  · exact hK ρ' w' cv h1 h2 h3
  · exact hK ρ' w' undef h1 h2 h3
theorem run_callOp {o : Oper} {C : Operand → Value} {fo : Operand} {as : Array Operand} {ts : Array TypeId} {f : FuncId} {fs cs : Array Value} (ho : o.op = .call { callee := .value fo, args := as, argTypes := ts }) (hf : C fo = .func (.func f) fs cs) :
    execOp C o = callFunc f (fs ++ as.map C ++ cs) := by
  simp only [execOp, ho, resolve, hf, Deferred.ofValue]
  show (invoke (.fn (.func f) cs) (fs ++ as.map C)) = _
  rfl
theorem VRs.map {ρ : Ren} {E : Operand → AV} {C : Operand → Value} : ∀ (l : List Operand), (∀ x ∈ l, VR ρ (E x) (C x)) → VRs ρ (l.map E) (l.map C)
  | [], _ => by simp [VRs]
  | x :: l, h => by
    simp only [List.map_cons, VRs]
    exact ⟨h x (List.mem_cons_self ..), VRs.map l fun y hy => h y (List.mem_cons_of_mem _ hy)⟩
end Go.Ab
namespace Go.Ab
def isSliceT (P : Program) (t : TypeId) : Bool :=
  match P.underlying t with
  | some (.slice _) => true
  | _ => false
def lenEff (P : Program) (o : Oper) (E : Operand → AV) (x : Operand) (t : TypeId) : Option Eff :=
  match E x with
  | .slc b k n c => if isSliceT P t = true then some { val := .val (.int .i64 n) } else none
  | _ => corePlain P o E
theorem run_len {P : Program} {o : Oper} {C : Operand → Value} {args : Array Operand} {ts : Array TypeId} {x : Operand} {t : TypeId} {ad : Option Addr} {n c : Nat} (ho : o.op = .call { callee := .builtin .len, args, argTypes := ts }) (hx : args[0]? = some x) (ht : ts[0]? = some t) (hs : isSliceT P t = true)
    (hC : C x = .slice ad n c) (w : World) : (execOp C o).run P w = .ok (.value (.int .i64 n)) w := by
  unfold isSliceT at hs
  split at hs
  · rename_i el hu
    simp only [execOp, ho, resolve]
    show ((do pure (Next.value (← Builtin.len_ ts o.type (args.map C)))) : Sem Next).run P w = _
    refine run_v ?_
    have h1 : (args.map C)[0]? = some (.slice ad n c) := by rw [Array.getElem?_map, hx]; simp [hC]
    simp only [Builtin.len_, ht, h1, Sem.run_bind, run_underlying' hu, Result.andThen]
    rfl
  · cases hs
def arith (op : BinOp) (a b : AV) (chk : Option Pf) : Option Eff :=
  match chk with
  | none => none
  | some pf =>
    match op, a, b with
    | .quo, .val (.int k x), .val (.int k' y) => if k = k' then some { val := .val (.int k (k.wrap (x.tdiv y))), ob := [.prop (y ≠ 0) pf.p] } else none
    | .rem, .val (.int k x), .val (.int k' y) => if k = k' then some { val := .val (.int k (x.tmod y)), ob := [.prop (y ≠ 0) pf.p] } else none
    | .shl, .val (.int k x), .val (.int _ y) => some { val := .val (.int k (k.wrap (x * 2 ^ min y.toNat k.bits))), ob := [.prop (0 ≤ y) pf.p] }
    | .shr, .val (.int k x), .val (.int _ y) => some { val := .val (.int k (x.fdiv (2 ^ min y.toNat k.bits))), ob := [.prop (0 ≤ y) pf.p] }
    | _, _, _ => none
theorem arith_run {P : Program} {ρ : Ren} {op : BinOp} {t : TypeId} {a b : AV} {x y : Value} {chk : Option Pf} {e : Eff} (hc : arith op a b chk = some e) (hob : ∀ q ∈ e.ob, q.holds) (hx : VR ρ a x) (hy : VR ρ b y) (w : World) (X Y : Operand) :
    ∃ v, ((do eqGuard op t X Y x y; binOp op t x y) : Sem Value).run P w = .ok v w ∧ VR ρ e.val v ∧ e.wb = [] := by
  unfold arith at hc
  split at hc
  case h_1 => cases hc
  rename_i pf
  split at hc
  · split at hc
    case isFalse => cases hc
    rename_i hk; subst hk
    injection hc with hc; subst hc
    simp only [VR] at hx hy; subst hx; subst hy
    rename_i k x y
    have h0 : y ≠ 0 := cast (Eq.symm (hob _ (List.mem_singleton.2 rfl))) pf.h
    refine ⟨_, ?_, by simp only [VR]; rfl, rfl⟩
    simp only [binOp, ne_eq, not_true_eq_false, if_false, Op.intDiv, h0]
    rfl
  · split at hc
    case isFalse => cases hc
    rename_i hk; subst hk
    injection hc with hc; subst hc
    simp only [VR] at hx hy; subst hx; subst hy
    rename_i k x y
    have h0 : y ≠ 0 := cast (Eq.symm (hob _ (List.mem_singleton.2 rfl))) pf.h
    refine ⟨_, ?_, by simp only [VR]; rfl, rfl⟩
    simp only [binOp, ne_eq, not_true_eq_false, if_false, Op.intDiv, h0]
    rfl
  · rename_i k x k' y
    injection hc with hc; subst hc
    simp only [VR] at hx hy; subst hx; subst hy
    have h0 : 0 ≤ y := cast (Eq.symm (hob _ (List.mem_singleton.2 rfl))) pf.h
    refine ⟨_, ?_, by simp only [VR]; rfl, rfl⟩
    have h0' := Int.not_lt.2 h0
    simp only [binOp, Op.shift, h0', if_false]
    rfl
  · rename_i k x k' y
    injection hc with hc; subst hc
    simp only [VR] at hx hy; subst hx; subst hy
    have h0 : 0 ≤ y := cast (Eq.symm (hob _ (List.mem_singleton.2 rfl))) pf.h
    refine ⟨_, ?_, by simp only [VR]; rfl, rfl⟩
    have h0' := Int.not_lt.2 h0
    simp only [binOp, Op.shift, h0', if_false]
    rfl
  · cases hc
def coreBin (P : Program) (o : Oper) (E : Operand → AV) (op : BinOp) (t : TypeId) (x y : Operand) (chk : Option Pf) : Option Eff :=
  match coreNil P op t (E x) (E y) chk with
  | some e => some e
  | none => match coreNil P op t (E y) (E x) chk with
    | some _ => none
    | none => match arith op (E x) (E y) chk with
      | some e => some e
      | none => corePlain P o E
def coreBuildSlice (P : Program) (t : TypeId) (len : Nat) (ps : List (Nat × AV)) (new : Nat) : Option Eff :=
  match P.underlying t with
  | some (.slice el) => (P.info? el).bind fun ie => ie.zero.bind fun z => if len * ie.size ≤ 2 ^ 24 ∧ 0 < len * ie.size then
      (fillA (fun i => some (i * ie.size, ie.size)) (((Array.range (len * ie.size)).map (fun x => z.cells[x % z.cells.size]!)).toList.map .val) ps).map fun out => { wb := [(new, .live { cells := .lit out, rw := true })], nw := 1, val := .slc new 0 len (.exact len) }
    else none
  | _ => none
theorem coreBuildSlice_ok {P : Program} {Γ : Ctx} {ρ : Ren} {h : Heap} {w : World} (hI : Inv Γ ρ h w) {t : TypeId} {len : Nat} {ps : List (Nat × AV)} {us : Array (Nat × Value)} (h1 : ps.map (·.1) = us.toList.map (·.1)) (h2 : VRs ρ (ps.map (·.2)) (us.toList.map (·.2))) {new : Nat} {e : Eff} (hc : coreBuildSlice P t len ps new = some e) (hn : Γ.n0 ≤ new) (hfree : h.get new = .free) :
    OpOK P Γ ρ h w (do pure (.value (← Instr.buildSlice t len us))) e := by
  unfold coreBuildSlice at hc
  split at hc
  case h_2 => cases hc
  rename_i el hu
  simp only [Option.bind_eq_some_iff] at hc
  obtain ⟨ie, hie, z, hz, hc⟩ := hc
  split at hc
  case isFalse => cases hc
  rename_i hcond
  simp only [Option.map_eq_some_iff] at hc
  obtain ⟨out, hf, rfl⟩ := hc
  obtain ⟨cs', h3, h4⟩ := fillA_ok (ρ := ρ) ps us.toList _ ((Array.range (len * ie.size)).map (fun x => z.cells[x % z.cells.size]!)) out hf (VRs.vals _) h1 h2
  obtain ⟨ρ', k1, k2, k3⟩ := alloc_lit hI hn hfree el h4
  refine ⟨ρ', _, _, _, run_v (v := .slice (some ⟨w.heap.size, 0, none⟩) len len) ?_, .inl rfl, k1, ?_, k3⟩
  · have e1 : ¬ len * ie.size > 2 ^ 24 := by omega
    have e2 : ¬ len * ie.size = 0 := by omega
    simp only [Instr.buildSlice, Sem.run_bind, run_underlying' hu, Result.andThen, run_size hie, e1, e2, if_false, run_zero hie hz, pure, Sem.run, h3, run_newRow]
  · simp only [VR]; exact .inl ⟨w.heap.size, 0, 0, k2, Nat.le_refl _, rfl⟩
def coreBase (P : Program) (o : Oper) (E : Operand → AV) (H : Nat → Ent) (new : Nat) (lds : Option (List Value × Pf)) (chk : Option Pf) : Option Eff :=
  match o.op with
  | .move x => some { val := E x }
  | .assign x => some { val := E x }
  | .pick c a b => match E c with
    | .val (.bool c) => some { val := if c = true then E a else E b }
    | _ => none
  | .alloc t => coreAlloc P t new
  | .box t x => coreBox (E x) new
  | .build t ps => coreBuild P t (zipParts ps E)
  | .buildSlice t len ps => coreBuildSlice P t len (zipParts ps E) new
  | .load t x => match E x with
    | .ptr b k => coreLoad P t b k (H b) lds new
    | _ => none
  | .store t x y => match E x with
    | .ptr b k => coreStore P t b k (H b) (E y) chk
    | _ => none
  | .nilCheck x => match E x with
    | .ptr b k => some { val := .ptr b k }
    | .fn (.func f) a b => some { val := .fn (.func f) a b }
    | _ => none
  | .binOp op t x y _ => coreBin P o E op t x y chk
  | .makeFunc (.func f) a b => some { val := .fn (.func f) (a.toList.map E) (b.toList.map E) }
  | .fieldAddr s x f => match E x with
    | .ptr b k => coreFieldAddr P s b k f
    | _ => none
  | .field s x f => coreField P s f (E x)
  | .indexAddr t x i => coreIndexAddr P t (E x) (E i) chk
  | .index t x i => coreIndex P t (E x) (E i) chk
  | .extract x i => match E x with
    | .tup vs => (vs[i]?).map fun a => { val := a }
    | _ => none
  | .call { callee := .builtin .len, args, argTypes } => match args[0]?, argTypes[0]? with
    | some x, some t => lenEff P o E x t
    | _, _ => none
  | _ => corePlain P o E
theorem coreLoad_rb {P : Program} {t : TypeId} {b o : Nat} {e : Ent} {vs : Option (List Value × Pf)} {new : Nat} {r : Eff} (h : coreLoad P t b o e vs new = some r) : r.rb = [b] := by
  unfold coreLoad at h
  split at h
  · split at h
    · simp only [Option.map_eq_some_iff] at h; obtain ⟨_, _, rfl⟩ := h; rfl
    · simp only [Option.bind_eq_some_iff] at h
      obtain ⟨vs, _, d, _, h⟩ := h
      split at h
      · simp only [Option.bind_eq_some_iff] at h
        obtain ⟨i, _, h⟩ := h
        split at h
        · injection h with h; subst h; rfl
        · cases h
      · split at h
        · injection h with h; subst h; rfl
        · cases h
    · simp only [Option.bind_eq_some_iff] at h
      obtain ⟨vs, _, d, _, h⟩ := h
      split at h
      · cases h
      · injection h with h; subst h; rfl
    · cases h
  · cases h
theorem coreStore_rb {P : Program} {t : TypeId} {b o : Nat} {e : Ent} {a : AV} {pf : Option Pf} {r : Eff} (h : coreStore P t b o e a pf = some r) : r.rb = [b] := by
  unfold coreStore at h
  split at h
  · split at h
    · simp only [Option.bind_eq_some_iff] at h
      obtain ⟨vs, _, i, _, h⟩ := h
      split at h
      · split at h
        · split at h
          · injection h with h; subst h; rfl
          · cases h
        · simp only [Option.bind_eq_some_iff, Option.map_eq_some_iff] at h; obtain ⟨_, _, _, _, rfl⟩ := h; rfl
        · cases h
      · cases h
    · cases h
  · cases h
theorem coreBase_ok {P : Program} {Γ : Ctx} {ρ : Ren} {h : Heap} {w : World} (hI : Inv Γ ρ h w) {o : Oper} {E : Operand → AV} {C : Operand → Value} (hE : ∀ x ∈ o.op.operands, VR ρ (E x) (C x))
    {H : Nat → Ent} {new : Nat} {lds : Option (List Value × Pf)} {chk : Option Pf} {e : Eff} (hc : coreBase P o E H new lds chk = some e) (hob : ∀ p ∈ e.ob, p.holds) (hH : ∀ b ∈ e.rb, h.get b = H b) (hn : Γ.n0 ≤ new) (hfree : ∀ x, new ≤ x → x < new + e.nw → h.get x = .free) :
    OpOK P Γ ρ h w (execOp C o) e := by
  unfold coreBase at hc
  split at hc
  · rename_i x hop
    injection hc with hc; subst hc
    exact .pure hI (C x) (by simp only [execOp, hop]; rfl) (hE x (by simp [hop, Op.operands])) rfl
  · rename_i x hop
    injection hc with hc; subst hc
    exact .pure hI (C x) (by simp only [execOp, hop]; rfl) (hE x (by simp [hop, Op.operands])) rfl
  · rename_i c a b hop
    split at hc
    case h_2 => cases hc
    rename_i c' hcc
    injection hc with hc; subst hc
    have h1 := hE c (by simp [hop, Op.operands])
    rw [hcc] at h1; simp only [VR] at h1
    refine .pure hI (if c' = true then C a else C b) ?_ ?_ rfl
    · simp only [execOp, hop, h1, asBool]
      cases c' <;> rfl
    · cases c'
      · simpa using hE b (by simp [hop, Op.operands])
      · simpa using hE a (by simp [hop, Op.operands])
  · rename_i t hop
    have hnw : e.nw = 1 := by simp only [coreAlloc, Option.map_eq_some_iff] at hc; obtain ⟨_, _, rfl⟩ := hc; rfl
    have := coreAlloc_ok hI hc hn (hfree new (Nat.le_refl _) (by omega))
    simpa only [execOp, hop] using this
  · rename_i t x hop
    have hnw : e.nw = 1 := by simp only [coreBox, Option.map_eq_some_iff] at hc; obtain ⟨_, _, rfl⟩ := hc; rfl
    have := coreBox_ok (P := P) (t := t) hI (hE x (by simp [hop, Op.operands])) hc hn (hfree new (Nat.le_refl _) (by omega))
    simpa only [execOp, hop] using this
  · rename_i t ps hop
    have h1 : ∀ (l : List (Nat × Operand)), (l.map fun p => (p.1, E p.2)).map (·.1) = (l.map fun (i, x) => (i, C x)).map (·.1) := fun l => by simp
    have h2 : ∀ (l : List (Nat × Operand)), (∀ p ∈ l, VR ρ (E p.2) (C p.2)) → VRs ρ ((l.map fun p => (p.1, E p.2)).map (·.2)) ((l.map fun (i, x) => (i, C x)).map (·.2)) := fun l hl => by
      induction l with
      | nil => simp [VRs]
      | cons p l ih =>
        simp only [List.map_cons, VRs]
        exact ⟨hl p (List.mem_cons_self ..), ih fun q hq => hl q (List.mem_cons_of_mem _ hq)⟩
    have := coreBuild_ok hI (t := t) (ps := zipParts ps E) (us := ps.map fun (i, x) => (i, C x)) (by simp [zipParts]) (by
      have := h2 ps.toList fun p hp => hE p.2 (by simp only [hop, Op.operands]; simpa using ⟨p.1, by simpa using hp⟩)
      simpa [zipParts] using this) hc
    simpa only [execOp, hop] using this
  · rename_i t len ps hop
    have h1 : ∀ (l : List (Nat × Operand)), (l.map fun p => (p.1, E p.2)).map (·.1) = (l.map fun (i, x) => (i, C x)).map (·.1) := fun l => by simp
    have h2 : ∀ (l : List (Nat × Operand)), (∀ p ∈ l, VR ρ (E p.2) (C p.2)) → VRs ρ ((l.map fun p => (p.1, E p.2)).map (·.2)) ((l.map fun (i, x) => (i, C x)).map (·.2)) := fun l hl => by
      induction l with
      | nil => simp [VRs]
      | cons p l ih =>
        simp only [List.map_cons, VRs]
        exact ⟨hl p (List.mem_cons_self ..), ih fun q hq => hl q (List.mem_cons_of_mem _ hq)⟩
    have hnw : e.nw = 1 := by
      unfold coreBuildSlice at hc
      split at hc
      · simp only [Option.bind_eq_some_iff] at hc
        obtain ⟨_, _, _, _, hc⟩ := hc
        split at hc
        · simp only [Option.map_eq_some_iff] at hc; obtain ⟨_, _, rfl⟩ := hc; rfl
        · cases hc
      · cases hc
    have := coreBuildSlice_ok hI (t := t) (ps := zipParts ps E) (us := ps.map fun (i, x) => (i, C x)) (by simp [zipParts]) (by
      have := h2 ps.toList fun p hp => hE p.2 (by simp only [hop, Op.operands]; simpa using ⟨p.1, by simpa using hp⟩)
      simpa [zipParts] using this) hc hn (hfree new (Nat.le_refl _) (by omega))
    simpa only [execOp, hop] using this
  · rename_i t x hop
    split at hc
    case h_2 => cases hc
    rename_i b k hx
    have h1 := hE x (by simp [hop, Op.operands]); rw [hx] at h1
    have hrb := coreLoad_rb hc
    have := coreLoad_ok hI h1 (vs := lds) (new := new) (e := e) (by rw [hH b (by rw [hrb]; simp)]; exact hc) hob hn hfree
    simpa only [execOp, hop] using this
  · rename_i t x y hop
    split at hc
    case h_2 => cases hc
    rename_i b k hx
    have h1 := hE x (by simp [hop, Op.operands]); rw [hx] at h1
    have hrb := coreStore_rb hc
    have := coreStore_ok (t := t) hI h1 (hE y (by simp [hop, Op.operands])) (e := e) (by rw [hH b (by rw [hrb]; simp)]; exact hc) hob
    simpa only [execOp, hop] using this
  · rename_i x hop
    have h1 := hE x (by simp [hop, Op.operands])
    split at hc
    · rename_i b k hx
      injection hc with hc; subst hc
      rw [hx] at h1
      refine .pure hI (C x) ?_ h1 rfl
      simp only [VR] at h1
      obtain ⟨cb, co, cc, _, h1⟩ := h1
      simp only [execOp, hop, h1]; rfl
    · rename_i f a b hx
      injection hc with hc; subst hc
      rw [hx] at h1
      refine .pure hI (C x) ?_ h1 rfl
      simp only [VR] at h1
      obtain ⟨fs, cs, h1, _⟩ := h1
      simp only [execOp, hop, h1]; rfl
    · cases hc
  · rename_i op t x y yt hop
    have hx := hE x (by simp [hop, Op.operands])
    have hy := hE y (by simp [hop, Op.operands])
    unfold coreBin at hc
    split at hc
    · rename_i e' h0
      injection hc with hc; subst hc
      have := coreNil_ok hI h0 hob hx hy x y
      simpa only [execOp, hop] using this
    · split at hc
      · cases hc
      · split at hc
        · rename_i e' h0
          injection hc with hc; subst hc
          obtain ⟨v, h1, h2, h3⟩ := arith_run (P := P) (t := t) h0 hob hx hy w x y
          refine .pure hI v ?_ h2 h3
          simp only [execOp, hop]
          exact run_v h1
        · exact corePlain_ok hI hE hc
  · rename_i f a b hop
    injection hc with hc; subst hc
    refine .pure hI (.func (.func f) (a.map C) (b.map C)) (by simp only [execOp, hop]; rfl) ?_ rfl
    simp only [VR]
    exact ⟨_, _, rfl, by rw [Array.toList_map]; exact VRs.map _ fun x hx => hE x (by simp [hop, Op.operands]; exact .inl (by simpa using hx)), by rw [Array.toList_map]; exact VRs.map _ fun x hx => hE x (by simp [hop, Op.operands]; exact .inr (by simpa using hx))⟩
  · rename_i s x f hop
    split at hc
    case h_2 => cases hc
    rename_i b k hx
    have h1 := hE x (by simp [hop, Op.operands]); rw [hx] at h1
    have := coreFieldAddr_ok hI h1 hc
    simpa only [execOp, hop] using this
  · rename_i s x f hop
    have := coreField_ok hI (hE x (by simp [hop, Op.operands])) hc
    simpa only [execOp, hop] using this
  · rename_i t x i hop
    have := coreIndexAddr_ok hI (hE x (by simp [hop, Op.operands])) (hE i (by simp [hop, Op.operands])) hc hob
    simpa only [execOp, hop] using this
  · rename_i t x i hop
    have := coreIndex_ok hI (hE x (by simp [hop, Op.operands])) (hE i (by simp [hop, Op.operands])) hc hob
    simpa only [execOp, hop] using this
  · rename_i x i hop
    split at hc
    case h_2 => cases hc
    rename_i vs hx
    simp only [Option.map_eq_some_iff] at hc
    obtain ⟨a, ha, rfl⟩ := hc
    have h1 := hE x (by simp [hop, Op.operands])
    rw [hx] at h1
    simp only [VR] at h1
    obtain ⟨us, hC, hus⟩ := h1
    obtain ⟨v, h2, h3⟩ := hus.get i a ha
    refine .pure hI v ?_ h3 rfl
    simp only [execOp, hop, hC]
    refine run_v ?_
    simp only [Instr.extract, show us[i]? = some v by simpa using h2]
    rfl
  · rename_i args ts hop
    split at hc
    case h_2 => cases hc
    rename_i x t hx ht
    unfold lenEff at hc
    split at hc
    · rename_i b k n c hs
      split at hc
      case isFalse => cases hc
      rename_i hst
      injection hc with hc; subst hc
      have hmem : x ∈ o.op.operands := by
        simp only [hop, Op.operands, Call.operands]
        simpa using Array.mem_of_getElem? hx
      have h1 := hE x hmem
      rw [hs] at h1
      have : ∃ ad c', C x = .slice ad n c' := by
        rcases h1.slc_cases with ⟨cb, co, cc, c', _, _, h2⟩ | ⟨h2, ad, h3⟩
        · exact ⟨_, _, h2⟩
        · subst h2; exact ⟨_, _, h3⟩
      obtain ⟨ad, c', hC⟩ := this
      exact .pure hI _ (run_len hop hx ht hst hC w) (by simp [VR]) rfl
    · exact corePlain_ok hI hE hc
  · exact corePlain_ok hI hE hc
end Go.Ab
namespace Go.Ab
def evalE (t : List AV) : Operand → AV
  | .tmp s => t.getD s (.val undef)
  | .const v => .val v
  | .global g => .val (.pointer (some ⟨g, 0, none⟩))
  | .func f => .fn (.func f) [] []
theorem VR_evalE {ρ : Ren} {t : List AV} {a : Act} (h : VRs ρ t a.tmps.toList) (x : Operand) : VR ρ (evalE t x) (a.eval x) := by
  cases x with
  | tmp s =>
    simp only [evalE, Act.eval, List.getD_eq_getElem?_getD]
    cases hs : t[s]? with
    | none =>
      have : a.tmps.size ≤ s := by
        have := h.length
        simp at this
        rcases Nat.lt_or_ge s t.length with h' | h'
        · simp [List.getElem?_eq_getElem h'] at hs
        · omega
      simp [Array.getD, this, VR]
      intro h'; omega
    | some v =>
      obtain ⟨u, h1, h2⟩ := h.get s v hs
      have h3 : a.tmps[s]? = some u := by simpa using h1
      simp [Array.getD_eq_getD_getElem?, h3, h2]
  | const v => simp [evalE, Act.eval, VR]
  | global g => simp [evalE, Act.eval, VR]
  | func f => simp only [evalE, Act.eval, VR]; exact ⟨#[], #[], rfl, by simp [VRs], by simp [VRs]⟩
structure Did where
  rs : List Nat
  rb : List Nat
  ws : Option Nat
  val : AV
  wb : List (Nat × Ent)
  new : Nat
  nw : Nat
  deriving Inhabited
def tmpsOf (l : List Operand) : List Nat := l.filterMap fun
  | .tmp t => some t
  | _ => none
def putT (t : List AV) (d : Option Nat) (v : AV) : List AV :=
  match d with
  | some d => t.set d v
  | none => t
def wantedA (ops : Array Oper) (o : Oper) (t : List AV) : Option Bool :=
  match o.guard with
  | none => some true
  | some (j, want) => match (ops[j]?).bind (·.dst) with
    | none => some false
    | some d => match t.getD d (.val undef) with
      | .val (.bool b) => some (b == want)
      | .val (.tuple _) => some false
      | _ => none
def guardSlot (ops : Array Oper) (o : Oper) : List Nat :=
  match o.guard with
  | none => []
  | some (j, _) => ((ops[j]?).bind (·.dst)).toList
def Did.t (d : Did) (t : List AV) : List AV := putT t d.ws d.val
def Did.h (d : Did) (h : Heap) : Heap := h.upds d.wb
structure Agree (d : Did) (t t' : List AV) (h h' : Heap) : Prop where
  slots : ∀ s ∈ d.rs, t'.getD s (.val undef) = t.getD s (.val undef)
  blocks : ∀ b ∈ d.rb, h'.get b = h.get b
  free : ∀ x, d.new ≤ x → x < d.new + d.nw → h'.get x = .free
theorem mem_tmpsOf {l : List Operand} {s : Nat} (h : Operand.tmp s ∈ l) : s ∈ tmpsOf l := List.mem_filterMap.2 ⟨_, h, rfl⟩
theorem yielded_of {ρ : Ren} {ops : Array Oper} {t : List AV} {a : Act} (h : VRs ρ t a.tmps.toList) {o : Oper} {b : Bool} (hw : wantedA ops o t = some b) : Region.wanted o (yielded ops a.tmps) = b := by
  unfold wantedA at hw
  unfold Region.wanted
  cases hg : o.guard with
  | none => simp [hg] at hw; simp [hw]
  | some jw =>
    obtain ⟨j, want⟩ := jw
    simp only [hg] at hw ⊢
    unfold yielded
    cases hd : (ops[j]?).bind (·.dst) with
    | none =>
      simp [hd] at hw
      simp [hw]
    | some d =>
      simp only [hd] at hw
      simp only [Option.bind_some]
      cases hs : t[d]? with
      | none =>
        have hno : a.tmps[d]? = none := by
          have := h.length
          simp at this
          rcases Nat.lt_or_ge d t.length with h' | h'
          · simp [List.getElem?_eq_getElem h'] at hs
          · simp; omega
        simp [List.getD_eq_getElem?_getD, hs, undef] at hw
        simp [hno, hw]
      | some v =>
        obtain ⟨u, h1, h2⟩ := h.get d v hs
        have h3 : a.tmps[d]? = some u := by simpa using h1
        simp only [List.getD_eq_getElem?_getD, hs, Option.getD_some] at hw
        split at hw
        · rename_i c
          simp only [VR] at h2; subst h2
          injection hw with hw
          simp [h3, ← hw]
        · simp only [VR] at h2; subst h2
          injection hw with hw
          simp [h3, ← hw]
        · cases hw
theorem evalE_agree {d : Did} {t t' : List AV} {h h' : Heap} (ha : Agree d t t' h h') {x : Operand} (hx : ∀ s, x = .tmp s → s ∈ d.rs) : evalE t' x = evalE t x := by
  cases x with
  | tmp s => exact ha.slots s (hx s rfl)
  | _ => rfl
theorem putT_VRs {ρ : Ren} {t : List AV} {a : Act} (h : VRs ρ t a.tmps.toList) (d : Option Nat) {v : AV} {cv : Value} (hv : VR ρ v cv) : VRs ρ (putT t d v) (a.put d cv).tmps.toList := by
  cases d with
  | none => simpa [putT, Act.put] using h
  | some d => simp only [putT, Act.put, Array.toList_setIfInBounds]; exact h.set d hv
theorem Heap.upd_length (h : Heap) (b : Nat) (e : Ent) : h.length ≤ (h.upd b e).length := by
  unfold Heap.upd; split <;> simp
theorem Heap.upds_length : ∀ (wb : List (Nat × Ent)) (h : Heap), h.length ≤ (h.upds wb).length
  | [], h => Nat.le_refl _
  | (b, e) :: wb, h => Nat.le_trans (Heap.upd_length h b e) (Heap.upds_length wb _)
theorem get_beyond (h : Heap) (x : Nat) (hx : h.length ≤ x) : h.get x = .free := by
  simp [Heap.get, List.getD_eq_getElem?_getD, List.getElem?_eq_none hx]
structure Good (P : Program) (Y : Ctx → Prop) (ops : Array Oper) (i : Nat) (t : List AV) (h : Heap) (d : Did) : Prop where
  new : d.new = h.length
  ok : ∀ (Γ : Ctx), Y Γ → ∀ (t' : List AV) (h' : Heap), Agree d t t' h h' → Γ.n0 ≤ h.length → ∀ (ρ : Ren) (w : World) (a : Act), Inv Γ ρ h' w → VRs ρ t' a.tmps.toList → ∀ {ds : List Deferred}, a.defers = ds → ∀ (fr : Option Nat) (Q : Exit → Act → World → Prop) (K : Act → World → Prop),
    (∀ ρ' w' a', Inv Γ ρ' (d.h h') w' → VRs ρ' (d.t t') a'.tmps.toList → a'.defers = ds → K a' w') → wpOpIn (frF fr) 0 P ops Q i K a w
theorem Agree.self {P : Program} {Y : Ctx → Prop} {ops : Array Oper} {i : Nat} {t : List AV} {h : Heap} {d : Did} (hg : Good P Y ops i t h d) : Agree d t t h h :=
  ⟨fun _ _ => rfl, fun _ _ => rfl, fun x h1 _ => get_beyond h x (by rw [hg.new] at h1; exact h1)⟩
def GoodAll (P : Program) (Y : Ctx → Prop) (ops : Array Oper) : Nat → List AV → Heap → List Did → Prop
  | _, _, _, [] => True
  | i, t, h, d :: l => Good P Y ops i t h d ∧ GoodAll P Y ops (i + 1) (d.t t) (d.h h) l
def endT (t : List AV) : List Did → List AV
  | [] => t
  | d :: l => endT (d.t t) l
def endH (h : Heap) : List Did → Heap
  | [] => h
  | d :: l => endH (d.h h) l
theorem endH_length : ∀ (l : List Did) (h : Heap), h.length ≤ (endH h l).length
  | [], h => Nat.le_refl _
  | d :: l, h => Nat.le_trans (Heap.upds_length _ _) (endH_length l _)
theorem goodAll_seq {P : Program} {Y : Ctx → Prop} {Γ : Ctx} (hY : Y Γ) {ops : Array Oper} {Q : Exit → Act → World → Prop} {fr : Option Nat} {ds : List Deferred} : ∀ (l : List Did) (k : Nat) (t : List AV) (h : Heap), GoodAll P Y ops k t h l → Γ.n0 ≤ h.length →
    ∀ ρ w a, Inv Γ ρ h w → VRs ρ t a.tmps.toList → a.defers = ds → (∀ ρ' w' a', Inv Γ ρ' (endH h l) w' → VRs ρ' (endT t l) a'.tmps.toList → a'.defers = ds → Q .normal a' w') → wpOpsIn (frF fr) 0 P ops Q (List.range' k l.length) a w
  | [], k, t, h, _, hn, ρ, w, a, hI, hV, hd, hQ => by
    simp only [List.length_nil, List.range'_zero, wpOpsIn]
    exact hQ ρ w a hI hV hd
  | d :: l, k, t, h, hg, hn, ρ, w, a, hI, hV, hd, hQ => by
    simp only [List.length_cons, List.range'_succ, wpOpsIn_cons]
    refine hg.1.ok Γ hY t h (Agree.self hg.1) hn ρ w a hI hV hd fr Q _ fun ρ' w' a' h1 h2 h3 => ?_
    exact goodAll_seq hY l (k + 1) _ _ hg.2 (Nat.le_trans hn (Heap.upds_length _ _)) ρ' w' a' h1 h2 h3 hQ
end Go.Ab
