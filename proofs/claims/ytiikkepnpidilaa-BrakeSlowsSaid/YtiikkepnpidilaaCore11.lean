/-
  CORE 11: a region: its operations one behind the other, in the text's order or in whatever order is drawn.
-/
import Derived.Test.YtiikkepnpidilaaCore10
set_option linter.unusedVariables false
set_option linter.unusedSimpArgs false
namespace Go.Ab

def evalE (t : List AV) : Operand → AV
  | .tmp s => t.getD s (.val undef)
  | .const v => .val v
  | .global g => .val (.pointer (some ⟨g, 0, none⟩))
  | .func f => .fn (.func f) [] []

theorem VR_evalE {ρ : Ren} {t : List AV} {a : Act} (h : VRs ρ t a.tmps.toList) (x : Operand) : VR ρ (evalE t x) (a.eval x) := by
  cases x with
  | tmp s =>
    simp only [evalE, Act.eval, List.getD_eq_getElem?_getD]
    cases hs : t[s]? with
    | none =>
      have : a.tmps.size ≤ s := by
        have := h.length
        simp at this
        rcases Nat.lt_or_ge s t.length with h' | h'
        · simp [List.getElem?_eq_getElem h'] at hs
        · omega
      simp [Array.getD, this, VR]
      intro h'; omega
    | some v =>
      obtain ⟨u, h1, h2⟩ := h.get s v hs
      have h3 : a.tmps[s]? = some u := by simpa using h1
      simp [Array.getD_eq_getD_getElem?, h3, h2]
  | const v => simp [evalE, Act.eval, VR]
  | global g => simp [evalE, Act.eval, VR]
  | func f => simp only [evalE, Act.eval, VR]; exact ⟨#[], #[], rfl, by simp [VRs], by simp [VRs]⟩

/-- What an operation did: the slots and blocks it read, the slot it wrote and what, the blocks it laid, its new blocks. -/
structure Did where
  rs : List Nat
  rb : List Nat
  ws : Option Nat
  val : AV
  wb : List (Nat × Ent)
  new : Nat
  nw : Nat
  deriving Inhabited

def tmpsOf (l : List Operand) : List Nat := l.filterMap fun
  | .tmp t => some t
  | _ => none

def putT (t : List AV) (d : Option Nat) (v : AV) : List AV :=
  match d with
  | some d => t.set d v
  | none => t

/-- May the operation be carried out? none: it can't be told. -/
def wantedA (ops : Array Oper) (o : Oper) (t : List AV) : Option Bool :=
  match o.guard with
  | none => some true
  | some (j, want) => match (ops[j]?).bind (·.dst) with
    | none => some false
    | some d => match t.getD d (.val undef) with
      | .val (.bool b) => some (b == want)
      | .val (.tuple _) => some false
      | _ => none
def guardSlot (ops : Array Oper) (o : Oper) : List Nat :=
  match o.guard with
  | none => []
  | some (j, _) => ((ops[j]?).bind (·.dst)).toList

def Did.t (d : Did) (t : List AV) : List AV := putT t d.ws d.val
def Did.h (d : Did) (h : Heap) : Heap := h.upds d.wb

/-- A state agrees with another one on what an operation reads. -/
structure Agree (d : Did) (t t' : List AV) (h h' : Heap) : Prop where
  slots : ∀ s ∈ d.rs, t'.getD s (.val undef) = t.getD s (.val undef)
  blocks : ∀ b ∈ d.rb, h'.get b = h.get b
  free : ∀ x, d.new ≤ x → x < d.new + d.nw → h'.get x = .free

theorem mem_tmpsOf {l : List Operand} {s : Nat} (h : Operand.tmp s ∈ l) : s ∈ tmpsOf l := List.mem_filterMap.2 ⟨_, h, rfl⟩

theorem yielded_of {ρ : Ren} {ops : Array Oper} {t : List AV} {a : Act} (h : VRs ρ t a.tmps.toList) {o : Oper} {b : Bool} (hw : wantedA ops o t = some b) : Region.wanted o (yielded ops a.tmps) = b := by
  unfold wantedA at hw
  unfold Region.wanted
  cases hg : o.guard with
  | none => simp [hg] at hw; simp [hw]
  | some jw =>
    obtain ⟨j, want⟩ := jw
    simp only [hg] at hw ⊢
    unfold yielded
    cases hd : (ops[j]?).bind (·.dst) with
    | none =>
      simp [hd] at hw
      simp [hw]
    | some d =>
      simp only [hd] at hw
      simp only [Option.bind_some]
      cases hs : t[d]? with
      | none =>
        have hno : a.tmps[d]? = none := by
          have := h.length
          simp at this
          rcases Nat.lt_or_ge d t.length with h' | h'
          · simp [List.getElem?_eq_getElem h'] at hs
          · simp; omega
        simp [List.getD_eq_getElem?_getD, hs, undef] at hw
        simp [hno, hw]
      | some v =>
        obtain ⟨u, h1, h2⟩ := h.get d v hs
        have h3 : a.tmps[d]? = some u := by simpa using h1
        simp only [List.getD_eq_getElem?_getD, hs, Option.getD_some] at hw
        split at hw
        · rename_i c
          simp only [VR] at h2; subst h2
          injection hw with hw
          simp [h3, ← hw]
        · simp only [VR] at h2; subst h2
          injection hw with hw
          simp [h3, ← hw]
        · cases hw

theorem evalE_agree {d : Did} {t t' : List AV} {h h' : Heap} (ha : Agree d t t' h h') {x : Operand} (hx : ∀ s, x = .tmp s → s ∈ d.rs) : evalE t' x = evalE t x := by
  cases x with
  | tmp s => exact ha.slots s (hx s rfl)
  | _ => rfl

theorem putT_VRs {ρ : Ren} {t : List AV} {a : Act} (h : VRs ρ t a.tmps.toList) (d : Option Nat) {v : AV} {cv : Value} (hv : VR ρ v cv) : VRs ρ (putT t d v) (a.put d cv).tmps.toList := by
  cases d with
  | none => simpa [putT, Act.put] using h
  | some d => simp only [putT, Act.put, Array.toList_setIfInBounds]; exact h.set d hv


theorem Heap.upd_length (h : Heap) (b : Nat) (e : Ent) : h.length ≤ (h.upd b e).length := by
  unfold Heap.upd; split <;> simp
theorem Heap.upds_length : ∀ (wb : List (Nat × Ent)) (h : Heap), h.length ≤ (h.upds wb).length
  | [], h => Nat.le_refl _
  | (b, e) :: wb, h => Nat.le_trans (Heap.upd_length h b e) (Heap.upds_length wb _)

theorem get_beyond (h : Heap) (x : Nat) (hx : h.length ≤ x) : h.get x = .free := by
  simp [Heap.get, List.getD_eq_getElem?_getD, List.getElem?_eq_none hx]

/-- An operation does so, whatever the state, as long as it agrees with this one on what is read. -/
structure Good (P : Program) (ops : Array Oper) (i : Nat) (t : List AV) (h : Heap) (d : Did) : Prop where
  new : d.new = h.length
  ok : ∀ (Γ : Ctx) (t' : List AV) (h' : Heap), Agree d t t' h h' → Γ.n0 ≤ h.length → ∀ (ρ : Ren) (w : World) (a : Act), Inv Γ ρ h' w → VRs ρ t' a.tmps.toList → a.defers = [] → ∀ (Q : Exit → Act → World → Prop) (K : Act → World → Prop),
    (∀ ρ' w' a', Inv Γ ρ' (d.h h') w' → VRs ρ' (d.t t') a'.tmps.toList → a'.defers = [] → K a' w') → wpOp P ops Q i K a w

theorem Agree.self {P : Program} {ops : Array Oper} {i : Nat} {t : List AV} {h : Heap} {d : Did} (hg : Good P ops i t h d) : Agree d t t h h :=
  ⟨fun _ _ => rfl, fun _ _ => rfl, fun x h1 _ => get_beyond h x (by rw [hg.new] at h1; exact h1)⟩

def GoodAll (P : Program) (ops : Array Oper) : Nat → List AV → Heap → List Did → Prop
  | _, _, _, [] => True
  | i, t, h, d :: l => Good P ops i t h d ∧ GoodAll P ops (i + 1) (d.t t) (d.h h) l
def endT (t : List AV) : List Did → List AV
  | [] => t
  | d :: l => endT (d.t t) l
def endH (h : Heap) : List Did → Heap
  | [] => h
  | d :: l => endH (d.h h) l

theorem endH_length : ∀ (l : List Did) (h : Heap), h.length ≤ (endH h l).length
  | [], h => Nat.le_refl _
  | d :: l, h => Nat.le_trans (Heap.upds_length _ _) (endH_length l _)

/-- In the text's order. -/
theorem goodAll_seq {P : Program} {Γ : Ctx} {ops : Array Oper} {Q : Exit → Act → World → Prop} : ∀ (l : List Did) (k : Nat) (t : List AV) (h : Heap), GoodAll P ops k t h l → Γ.n0 ≤ h.length →
    ∀ ρ w a, Inv Γ ρ h w → VRs ρ t a.tmps.toList → a.defers = [] → (∀ ρ' w' a', Inv Γ ρ' (endH h l) w' → VRs ρ' (endT t l) a'.tmps.toList → a'.defers = [] → Q .normal a' w') → wpOps P ops Q (List.range' k l.length) a w
  | [], k, t, h, _, hn, ρ, w, a, hI, hV, hd, hQ => by
    simp only [List.length_nil, List.range'_zero, wpOps]
    exact hQ ρ w a hI hV hd
  | d :: l, k, t, h, hg, hn, ρ, w, a, hI, hV, hd, hQ => by
    simp only [List.length_cons, List.range'_succ, wpOps_cons]
    refine hg.1.ok Γ t h (Agree.self hg.1) hn ρ w a hI hV hd Q _ fun ρ' w' a' h1 h2 h3 => ?_
    exact goodAll_seq l (k + 1) _ _ hg.2 (Nat.le_trans hn (Heap.upds_length _ _)) ρ' w' a' h1 h2 h3 hQ

end Go.Ab
