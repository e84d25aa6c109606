/-
  CORE 3: the operations but for calls: what each does to abstract values and blocks, and that the machine does so.
-/
import Derived.Test.YtiikkepnpidilaaCore2
import Derived.Laws.World
set_option linter.unusedVariables false
set_option linter.unusedSimpArgs false
namespace Go.Ab

def still {α : Type} (P : Program) : Sem α → Option α
  | .pure a => some a
  | .program k => still P (k P)
  | .mark _ k => still P k
  | _ => none
theorem still_run {α : Type} {P : Program} : ∀ (s : Sem α) {a : α}, still P s = some a → ∀ w, s.run P w = .ok a w
  | .pure a, b, h, w => by simp [still] at h; subst h; rfl
  | .program k, b, h, w => by simp only [still] at h; simp only [Sem.run]; exact still_run (k P) h w
  | .load .., _, h, _ => by simp [still] at h
  | .store .., _, h, _ => by simp [still] at h
  | .new .., _, h, _ => by simp [still] at h
  | .shape .., _, h, _ => by simp [still] at h
  | .freeze .., _, h, _ => by simp [still] at h
  | .frozen .., _, h, _ => by simp [still] at h
  | .getObj .., _, h, _ => by simp [still] at h
  | .setObj .., _, h, _ => by simp [still] at h
  | .choose .., _, h, _ => by simp [still] at h
  | .sys .., _, h, _ => by simp [still] at h
  | .mark _ k, b, h, w => by simp only [still] at h; simp only [Sem.run]; exact still_run k h w
  | .halt .., _, h, _ => by simp [still] at h

mutual
def AV.plain? : AV → Option Value
  | .val v => some v
  | .agg cs => (AV.plains? cs).map fun l => .agg l.toArray
  | .tup vs => (AV.plains? vs).map fun l => .tuple l.toArray
  | .ifc t v => (AV.plain? v).map (.iface t)
  | .fn f a b => (AV.plains? a).bind fun x => (AV.plains? b).map fun y => .func f x.toArray y.toArray
  | .any => none
  | .ptr .. => none
  | .elt .. => none
  | .slc .. => none
def AV.plains? : List AV → Option (List Value)
  | [] => some []
  | a :: as => (AV.plain? a).bind fun v => (AV.plains? as).map (v :: ·)
end

mutual
theorem plain_eq {ρ : Ren} : ∀ (a : AV) {v cv : Value}, a.plain? = some v → VR ρ a cv → cv = v
  | .val u, v, cv, h, hv => by simp [AV.plain?] at h; subst h; simpa [VR] using hv
  | .agg cs, v, cv, h, hv => by
    simp only [AV.plain?, Option.map_eq_some_iff] at h
    obtain ⟨l, h1, rfl⟩ := h
    simp only [VR] at hv
    obtain ⟨cs', rfl, h2⟩ := hv
    rw [← plains_eq cs h1 h2]
  | .tup cs, v, cv, h, hv => by
    simp only [AV.plain?, Option.map_eq_some_iff] at h
    obtain ⟨l, h1, rfl⟩ := h
    simp only [VR] at hv
    obtain ⟨cs', rfl, h2⟩ := hv
    rw [← plains_eq cs h1 h2]
  | .ifc t u, v, cv, h, hv => by
    simp only [AV.plain?, Option.map_eq_some_iff] at h
    obtain ⟨l, h1, rfl⟩ := h
    simp only [VR] at hv
    obtain ⟨v', rfl, h2⟩ := hv
    rw [plain_eq u h1 h2]
  | .fn f a b, v, cv, h, hv => by
    simp only [AV.plain?, Option.bind_eq_some_iff, Option.map_eq_some_iff] at h
    obtain ⟨x, h1, y, h2, rfl⟩ := h
    simp only [VR] at hv
    obtain ⟨fs', cs', rfl, h3, h4⟩ := hv
    rw [← plains_eq a h1 h3, ← plains_eq b h2 h4]
  | .any, _, _, h, _ => by simp [AV.plain?] at h
  | .ptr .., _, _, h, _ => by simp [AV.plain?] at h
  | .elt .., _, _, h, _ => by simp [AV.plain?] at h
  | .slc .., _, _, h, _ => by simp [AV.plain?] at h
theorem plains_eq {ρ : Ren} : ∀ (as : List AV) {l : List Value} {vs : List Value}, AV.plains? as = some l → VRs ρ as vs → vs = l
  | [], l, vs, h, hv => by
    simp [AV.plains?] at h; subst h
    cases vs with
    | nil => rfl
    | cons => simp [VRs] at hv
  | a :: as, l, vs, h, hv => by
    simp only [AV.plains?, Option.bind_eq_some_iff, Option.map_eq_some_iff] at h
    obtain ⟨v, h1, l', h2, rfl⟩ := h
    cases vs with
    | nil => simp [VRs] at hv
    | cons u us =>
      simp only [VRs] at hv
      rw [plain_eq a h1 hv.1, plains_eq as h2 hv.2]
end

/-- A value of one cell. -/
def AV.one : AV → Bool
  | .val v => v.oneCell'
  | .ptr .. | .elt .. | .slc .. | .fn .. | .ifc .. => true
  | _ => false
theorem one_cell {ρ : Ren} {a : AV} {v : Value} (h : VR ρ a v) (h1 : a.one = true) : v.oneCell' = true := by
  cases a with
  | any => simp [AV.one] at h1
  | val u => simp only [VR] at h; subst h; exact h1
  | ptr b o => simp only [VR] at h; obtain ⟨_, _, _, _, rfl⟩ := h; rfl
  | elt b o i w f => simp only [VR] at h; obtain ⟨_, _, _, _, rfl⟩ := h; rfl
  | slc b o n c =>
    rcases h.slc_cases with ⟨_, _, _, _, _, _, rfl⟩ | ⟨_, _, rfl⟩ <;> rfl
  | fn f a b => simp only [VR] at h; obtain ⟨_, _, rfl, _⟩ := h; rfl
  | agg cs => simp [AV.one] at h1
  | tup cs => simp [AV.one] at h1
  | ifc t v => simp only [VR] at h; obtain ⟨_, rfl, _⟩ := h; rfl

def AV.asCells : AV → Option (List AV)
  | .agg cs => some cs
  | .val (.agg cs) => some (cs.toList.map .val)
  | .val (.tuple _) => none
  | .any => none
  | .tup _ => none
  | v => some [v]
theorem cells_of {ρ : Ren} {a : AV} {v : Value} {l : List AV} (ha : a.asCells = some l) (h : VR ρ a v) : VRs ρ l v.cells.toList := by
  unfold AV.asCells at ha
  split at ha
  · injection ha with ha; subst ha; simp only [VR] at h; obtain ⟨cs', rfl, h⟩ := h; exact h
  · injection ha with ha; subst ha; simp only [VR] at h; subst h; exact VRs.vals _
  · cases ha
  · cases ha
  · cases ha
  · rename_i h1 h2 h3 h4 h5
    injection ha with ha; subst ha
    have : v.cells = #[v] := by
      cases a with
      | val u =>
        simp only [VR] at h; subst h
        cases v with
        | agg cs => exact absurd rfl (h2 cs)
        | _ => rfl
      | ptr b o => simp only [VR] at h; obtain ⟨_, _, _, _, rfl⟩ := h; rfl
      | elt b o i w f => simp only [VR] at h; obtain ⟨_, _, _, _, rfl⟩ := h; rfl
      | slc b o n c =>
        rcases h.slc_cases with ⟨_, _, _, _, _, _, rfl⟩ | ⟨_, _, rfl⟩ <;> rfl
      | fn f a b => simp only [VR] at h; obtain ⟨_, _, rfl, _⟩ := h; rfl
      | agg cs => exact absurd rfl (h1 cs)
      | any => exact absurd rfl h4
      | tup vs => exact absurd rfl (h5 vs)
      | ifc t v => simp only [VR] at h; obtain ⟨_, rfl, _⟩ := h; rfl
    rw [this]; simp [VRs, h]

def ofValue1 : Value → AV
  | .agg cs => .agg (cs.toList.map .val)
  | v => .val v
def ofValue : Value → AV
  | .agg cs => .agg (cs.toList.map .val)
  | .tuple vs => .tup (vs.toList.map ofValue1)
  | v => .val v
theorem VR_ofValue1 (ρ : Ren) (v : Value) : VR ρ (ofValue1 v) v := by
  cases v <;> simp [ofValue1, VR]
  exact VRs.vals _
theorem VRs_ofValue1 (ρ : Ren) : ∀ l : List Value, VRs ρ (l.map ofValue1) l
  | [] => by simp [VRs]
  | v :: l => by simp only [List.map_cons, VRs]; exact ⟨VR_ofValue1 ρ v, VRs_ofValue1 ρ l⟩
theorem VR_ofValue (ρ : Ren) (v : Value) : VR ρ (ofValue v) v := by
  cases v <;> simp [ofValue, VR]
  · exact VRs.vals _
  · exact VRs_ofValue1 ρ _

inductive AnyV where
  | avs (a : List AV)
  | blk (a : Blk)
  | ent (a : Ent)
  | vals (a : List Value)
  | ovals (a : Option (List Value))
  | prop (a : Prop)
  | bool (a : Bool)
  | code (a : Code)
  | rows (a : List (List Value))
/-- What is owed: two things that come to one. -/
inductive Ob where
  | avs (a b : List AV)
  | blk (a b : Blk)
  | ent (a b : Ent)
  | vals (a b : List Value)
  | ovals (a b : Option (List Value))
  | prop (a b : Prop)
  | bool (a b : Bool)
  | code (a b : Code)
  | rows (a b : List (List Value))
def Ob.holds : Ob → Prop
  | .avs a b => a = b
  | .blk a b => a = b
  | .ent a b => a = b
  | .vals a b => a = b
  | .ovals a b => a = b
  | .prop a b => a = b
  | .bool a b => a = b
  | .code a b => a = b
  | .rows a b => a = b
def Ob.l : Ob → AnyV
  | .avs a _ => .avs a
  | .blk a _ => .blk a
  | .ent a _ => .ent a
  | .vals a _ => .vals a
  | .ovals a _ => .ovals a
  | .prop a _ => .prop a
  | .bool a _ => .bool a
  | .code a _ => .code a
  | .rows a _ => .rows a
def Ob.r : Ob → AnyV
  | .avs _ a => .avs a
  | .blk _ a => .blk a
  | .ent _ a => .ent a
  | .vals _ a => .vals a
  | .ovals _ a => .ovals a
  | .prop _ a => .prop a
  | .bool _ a => .bool a
  | .code _ a => .code a
  | .rows _ a => .rows a
theorem Ob.holds_of (o : Ob) (h : o.l = o.r) : o.holds := by
  cases o <;> (simp only [Ob.l, Ob.r] at h; injection h)
theorem obs_of : ∀ (l : List Ob), l.map Ob.l = l.map Ob.r → ∀ o ∈ l, o.holds
  | [], _, o, ho => by simp at ho
  | x :: l, h, o, ho => by
    simp only [List.map_cons, List.cons.injEq] at h
    rcases List.mem_cons.1 ho with rfl | ho
    · exact o.holds_of h.1
    · exact obs_of l h.2 o ho
/-- A condition, told with its proof. -/
structure Pf where
  p : Prop
  h : p

/-- An effect: which blocks are read; which are laid anew; how many of them are new; the value; what is owed. -/
structure Eff where
  rb : List Nat := []
  wb : List (Nat × Ent) := []
  nw : Nat := 0
  val : AV
  ob : List Ob := []

/-- What the machine must do for an effect. -/
def OpOK (P : Program) (Γ : Ctx) (ρ : Ren) (h : Heap) (w : World) (s : Sem Next) (e : Eff) : Prop :=
  ∃ ρ' nx cv w', s.run P w = .ok nx w' ∧ (nx = .value cv ∨ (nx = .skip ∧ cv = undef)) ∧ ρ.le ρ' ∧ VR ρ' e.val cv ∧ Inv Γ ρ' (h.upds e.wb) w'

theorem OpOK.pure {P : Program} {Γ : Ctx} {ρ : Ren} {h : Heap} {w : World} {s : Sem Next} {e : Eff} (hI : Inv Γ ρ h w) (cv : Value) (hr : s.run P w = .ok (.value cv) w) (hv : VR ρ e.val cv) (hw : e.wb = []) : OpOK P Γ ρ h w s e :=
  ⟨ρ, _, cv, w, hr, .inl rfl, ρ.le_refl, hv, by rw [hw]; exact hI⟩

theorem run_v {P : Program} {s : Sem Value} {w w' : World} {v : Value} (h : s.run P w = .ok v w') : (do pure (Next.value (← s)) : Sem Next).run P w = .ok (.value v) w' := by
  simp [Sem.run_bind, h, Result.andThen]
theorem run_u {P : Program} {s : Sem Unit} {w w' : World} (h : s.run P w = .ok () w') : (do s; pure Next.skip : Sem Next).run P w = .ok .skip w' := by
  simp [Sem.run_bind, h, Result.andThen]

theorem run_info {P : Program} {t : TypeId} {i : TypeInfo} (h : P.info? t = some i) (w : World) : (typeInfo t).run P w = .ok i w := by
  simp [typeInfo, program, Sem.run_bind, Sem.run, h, Result.andThen, pure]
theorem run_size {P : Program} {t : TypeId} {i : TypeInfo} (h : P.info? t = some i) (w : World) : (sizeOf t).run P w = .ok i.size w := by
  simp [sizeOf, Sem.run_bind, run_info h, Result.andThen, pure, Sem.run]
theorem run_zero {P : Program} {t : TypeId} {i : TypeInfo} {z : Value} (h : P.info? t = some i) (hz : i.zero = some z) (w : World) : (zeroValue t).run P w = .ok z w := by
  simp [zeroValue, Sem.run_bind, run_info h, hz, Result.andThen, pure, Sem.run]

end Go.Ab
