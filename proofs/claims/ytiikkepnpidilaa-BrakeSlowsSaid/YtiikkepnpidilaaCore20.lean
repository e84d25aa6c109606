/-
  CORE 20: a state with only what is looked at again, its blocks numbered anew.
-/
import Derived.Test.YtiikkepnpidilaaCore19
set_option linter.unusedVariables false
set_option linter.unusedSimpArgs false
namespace Go.Ab

def posOf (b : Nat) : List Nat → Nat → Option Nat
  | [], _ => none
  | x :: l, i => if x = b then some i else posOf b l (i + 1)
theorem posOf_some {b : Nat} : ∀ (l : List Nat) (i k : Nat), posOf b l i = some k → i ≤ k ∧ l[k - i]? = some b
  | [], i, k, h => by simp [posOf] at h
  | x :: l, i, k, h => by
    simp only [posOf] at h
    split at h
    · rename_i hx; injection h with h; subst h; subst hx; simp
    · obtain ⟨h1, h2⟩ := posOf_some l (i + 1) k h
      refine ⟨by omega, ?_⟩
      rw [show k - i = (k - (i + 1)) + 1 by omega]; simpa using h2

mutual
def unA (σ : List Nat) : AV → Option AV
  | .ptr b o => match posOf b σ 0 with
    | some i => some (.ptr i o)
    | none => none
  | .elt b o j w f => match posOf b σ 0 with
    | some i => some (.elt i o j w f)
    | none => none
  | .slc b o n c => match posOf b σ 0 with
    | some i => some (.slc i o n c)
    | none => none
  | .fn f a b => match unL σ a, unL σ b with
    | some x, some y => some (.fn f x y)
    | _, _ => none
  | .agg l => match unL σ l with
    | some x => some (.agg x)
    | none => none
  | .tup l => match unL σ l with
    | some x => some (.tup x)
    | none => none
  | .ifc t v => match unA σ v with
    | some x => some (.ifc t x)
    | none => none
  | .any => some .any
  | .val v => some (.val v)
def unL (σ : List Nat) : List AV → Option (List AV)
  | [] => some []
  | a :: l => match unA σ a, unL σ l with
    | some x, some y => some (x :: y)
    | _, _ => none
end
def sig (σ : List Nat) : List (Nat × Nat) := σ.map fun x => (x, 0)
theorem renB_un {σ : List Nat} {b i : Nat} (h : posOf b σ 0 = some i) (o : Nat) : renB (sig σ) σ.length 0 i o = (b, o) ∧ i < σ.length := by
  obtain ⟨_, h2⟩ := posOf_some σ 0 i h
  simp only [Nat.sub_zero] at h2
  have hlt := (List.getElem?_eq_some_iff.1 h2).1
  refine ⟨?_, hlt⟩
  unfold renB
  rw [if_pos hlt]
  simp [sig, h2]
mutual
theorem unA_ok {σ : List Nat} : ∀ (a x : AV), unA σ a = some x → renA (sig σ) σ.length 0 x = a ∧ okA σ.length x = true
  | .ptr b o, x, h => by
    simp only [unA] at h
    split at h
    case h_2 => cases h
    rename_i i hi
    injection h with h; subst h
    obtain ⟨h1, h2⟩ := renB_un hi o
    simp [renA, okA, h1, h2]
  | .elt b o j w f, x, h => by
    simp only [unA] at h
    split at h
    case h_2 => cases h
    rename_i i hi
    injection h with h; subst h
    obtain ⟨h1, h2⟩ := renB_un hi o
    simp [renA, okA, h1, h2]
  | .slc b o n c, x, h => by
    simp only [unA] at h
    split at h
    case h_2 => cases h
    rename_i i hi
    injection h with h; subst h
    obtain ⟨h1, h2⟩ := renB_un hi o
    simp [renA, okA, h1, h2]
  | .fn f a b, x, h => by
    simp only [unA] at h
    split at h
    case h_2 => cases h
    rename_i y z hy hz
    injection h with h; subst h
    obtain ⟨h1, h2⟩ := unL_ok a y hy
    obtain ⟨h3, h4⟩ := unL_ok b z hz
    simp [renA, okA, h1, h2, h3, h4]
  | .agg l, x, h => by
    simp only [unA] at h
    split at h
    case h_2 => cases h
    rename_i y hy
    injection h with h; subst h
    obtain ⟨h1, h2⟩ := unL_ok l y hy
    simp [renA, okA, h1, h2]
  | .tup l, x, h => by
    simp only [unA] at h
    split at h
    case h_2 => cases h
    rename_i y hy
    injection h with h; subst h
    obtain ⟨h1, h2⟩ := unL_ok l y hy
    simp [renA, okA, h1, h2]
  | .ifc t v, x, h => by
    simp only [unA] at h
    split at h
    case h_2 => cases h
    rename_i y hy
    injection h with h; subst h
    obtain ⟨h1, h2⟩ := unA_ok v y hy
    simp [renA, okA, h1, h2]
  | .any, x, h => by simp only [unA] at h; injection h with h; subst h; simp [renA, okA]
  | .val v, x, h => by simp only [unA] at h; injection h with h; subst h; simp [renA, okA]
theorem unL_ok {σ : List Nat} : ∀ (a x : List AV), unL σ a = some x → renL (sig σ) σ.length 0 x = a ∧ okL σ.length x = true
  | [], x, h => by simp only [unL] at h; injection h with h; subst h; simp [renL, okL]
  | a :: l, x, h => by
    simp only [unL] at h
    split at h
    case h_2 => cases h
    rename_i y z hy hz
    injection h with h; subst h
    obtain ⟨h1, h2⟩ := unA_ok a y hy
    obtain ⟨h3, h4⟩ := unL_ok l z hz
    simp [renL, okL, h1, h2, h3, h4]
end

theorem adapt1_self (a : AV) : a.adapt1 a = a := by
  cases a with
  | slc b o n c => cases c <;> rfl
  | _ => rfl
mutual
theorem adapt_self : ∀ a : AV, adapt a a = a
  | .agg l => by simp only [adapt]; rw [adapts_self l]
  | .fn f a b => by simp only [adapt]; rw [adapts_self a, adapts_self b]
  | .any => rfl
  | .val v => by simp only [adapt]; exact adapt1_self _
  | .ptr b o => by simp only [adapt]; exact adapt1_self _
  | .elt b o i w f => by simp only [adapt]; exact adapt1_self _
  | .slc b o n c => by simp only [adapt]; exact adapt1_self _
  | .tup l => by simp only [adapt]; exact adapt1_self _
  | .ifc t v => by simp only [adapt]; exact adapt1_self _
theorem adapts_self : ∀ l : List AV, adapts l l = l
  | [] => by simp [adapts]
  | a :: l => by simp only [adapts]; rw [adapt_self a, adapts_self l]
end
/-- The slots that are kept (told by numbers, in order), numbered anew. -/
def unT (σ : List Nat) (keep : List Nat) : Nat → List AV → Option (List AV)
  | _, [] => some []
  | i, a :: l => match (if keep.contains i then unA σ a else some .any), unT σ keep (i + 1) l with
    | some x, some y => some (x :: y)
    | _, _ => none
theorem unT_ok {σ : List Nat} {keep : List Nat} : ∀ (l : List AV) (i : Nat) (x : List AV), unT σ keep i l = some x → adapts (renL (sig σ) σ.length 0 x) l = renL (sig σ) σ.length 0 x ∧ okL σ.length x = true
  | [], i, x, h => by simp only [unT] at h; injection h with h; subst h; simp [renL, okL, adapts]
  | a :: l, i, x, h => by
    simp only [unT] at h
    split at h
    case h_2 => cases h
    rename_i y z hy hz
    injection h with h; subst h
    obtain ⟨h3, h4⟩ := unT_ok l (i + 1) z hz
    split at hy
    · obtain ⟨h1, h2⟩ := unA_ok a y hy
      simp only [renL, okL, adapts, h1, h2, h3, h4, Bool.and_self, and_true]
      rw [adapt_self]
    · injection hy with hy; subst hy
      simp only [renL, renA, okL, okA, adapts, h3, h4, Bool.and_self, and_true]
      rw [show adapt .any a = .any from by simp only [adapt]; rfl]

/-! ### which blocks are kept, and in which order -/
def addB (b : Nat) (σ : List Nat) : List Nat := if σ.contains b then σ else σ ++ [b]
mutual
def blksA : AV → List Nat → List Nat
  | .ptr b _, σ => addB b σ
  | .elt b _ _ _ _, σ => addB b σ
  | .slc b _ _ _, σ => addB b σ
  | .fn _ a b, σ => blksL b (blksL a σ)
  | .agg l, σ => blksL l σ
  | .tup l, σ => blksL l σ
  | .ifc _ v, σ => blksA v σ
  | .any, σ => σ
  | .val _, σ => σ
def blksL : List AV → List Nat → List Nat
  | [], σ => σ
  | a :: l, σ => blksL l (blksA a σ)
end
def blksT (keep : List Nat) : Nat → List AV → List Nat → List Nat
  | _, [], σ => σ
  | i, a :: l, σ => blksT keep (i + 1) l (if keep.contains i then blksA a σ else σ)
def blksH (h : Heap) : Nat → Nat → List Nat → List Nat
  | 0, _, σ => σ
  | f + 1, i, σ => match σ[i]? with
    | none => σ
    | some b => blksH h f (i + 1) (match h.get b with
      | .live blk => (match blk.cells with
        | .lit l => blksL l σ
        | _ => σ)
      | _ => σ)
def unEnt (σ : List Nat) : Ent → Option Ent
  | .free => none
  | .dead => some .dead
  | .live blk => match blk.cells with
    | .lit l => (match unL σ l with
      | some x => some (.live { blk with cells := .lit x })
      | none => none)
    | _ => some (.live blk)
def unEnts (σ : List Nat) (h : Heap) : List Nat → Option (List Ent)
  | [] => some []
  | b :: l => match unEnt σ (h.get b), unEnts σ h l with
    | some e, some es => some (e :: es)
    | _, _ => none

/-- The state with what is kept; the first n0 blocks keep their numbers. -/
def gcK {β : Type} (n0 : Nat) (keep : List Nat) (t : List AV) (h : Heap) (K : List AV → Heap → Option β) : Option β :=
  let σ := blksH h 1000 0 (blksT keep 0 t (List.range n0))
  match unT σ keep 0 t, unEnts σ h σ with
  | some t2, some h2 => if n0 ≤ σ.length ∧ startsSame n0 0 σ = true ∧ distinct σ = true then K t2 h2 else none
  | _, _ => none

theorem unEnts_ok {σ : List Nat} {h : Heap} : ∀ (l : List Nat) (es : List Ent), unEnts σ h l = some es → es.length = l.length ∧ okEnts σ.length es = true ∧
    (∃ obs, blockObs (sig σ) σ.length h (l.map fun x => (x, 0)) es = some obs ∧ ∀ p ∈ obs, p.holds)
  | [], es, hs => by simp only [unEnts] at hs; injection hs with hs; subst hs; exact ⟨rfl, rfl, [], rfl, by simp⟩
  | b :: l, es, hs => by
    simp only [unEnts] at hs
    split at hs
    case h_2 => cases hs
    rename_i e es' he hes
    injection hs with hs; subst hs
    obtain ⟨h1, h2, obs, h3, h4⟩ := unEnts_ok l es' hes
    unfold unEnt at he
    split at he
    · cases he
    · injection he with he; subst he
      exact ⟨by simp [h1], by simpa [okEnts] using h2, obs, by simpa [blockObs] using h3, h4⟩
    · rename_i blk hblk
      split at he
      · rename_i cs hcs
        split at he
        case h_2 => cases he
        rename_i x hx
        injection he with he; subst he
        obtain ⟨k1, k2⟩ := unL_ok cs x hx
        refine ⟨by simp [h1], by simp [okEnts, okCells, k2, h2], _, by simp only [List.map_cons, blockObs, h3, Option.map_some]; rfl, ?_⟩
        intro p hp
        rcases List.mem_cons.1 hp with rfl | hp
        · show h.get b = _
          rw [hblk]
          simp only [renBlk, renCells, k1, ← hcs]
        · exact h4 p hp
      · rename_i hnl
        injection he with he; subst he
        have hok : okCells σ.length blk.cells = true := by
          cases hc : blk.cells with
          | lit cs => exact absurd hc (hnl cs)
          | _ => rfl
        have hren : renBlk (sig σ) σ.length 0 blk = blk := by
          unfold renBlk
          cases hc : blk.cells with
          | lit cs => exact absurd hc (hnl cs)
          | _ => simp only [renCells]; rw [← hc]
        refine ⟨by simp [h1], by simp [okEnts, hok, h2], _, by simp only [List.map_cons, blockObs, h3, Option.map_some]; rfl, ?_⟩
        intro p hp
        rcases List.mem_cons.1 hp with rfl | hp
        · show h.get b = _
          rw [hblk, hren]
        · exact h4 p hp

theorem gcK_ok {β : Type} {n0 : Nat} {keep : List Nat} {t : List AV} {h : Heap} {K : List AV → Heap → Option β} {r : β} (hs : gcK n0 keep t h K = some r) :
    ∃ t2 h2, K t2 h2 = some r ∧ n0 ≤ h2.length ∧ ∃ σ l, weakObs n0 σ t t2 h h2 = some l ∧ ∀ p ∈ l, p.holds := by
  unfold gcK at hs
  simp only at hs
  generalize blksH h 1000 0 (blksT keep 0 t (List.range n0)) = σ at hs
  split at hs
  case h_2 => cases hs
  rename_i t2 h2 ht hh
  split at hs
  case isFalse => cases hs
  rename_i hc
  obtain ⟨k1, k2⟩ := unT_ok t 0 t2 ht
  obtain ⟨k3, k4, obs, k5, k6⟩ := unEnts_ok σ h2 hh
  refine ⟨t2, h2, hs, by rw [k3]; exact hc.1, σ, Ob.avs (adapts (renL (sig σ) σ.length 0 t2) t) (renL (sig σ) σ.length 0 t2) :: obs, ?_, ?_⟩
  · unfold weakObs
    simp only [k3]
    rw [if_pos ⟨trivial, hc.1, hc.2.1, hc.2.2, by simp [k2, k4]⟩]
    show (blockObs (sig σ) σ.length h (sig σ) h2).map _ = _
    rw [show sig σ = σ.map fun x => (x, 0) from rfl] at k5 ⊢
    rw [k5]; rfl
  · intro p hp
    rcases List.mem_cons.1 hp with rfl | hp
    · exact k1
    · exact k6 p hp

end Go.Ab
