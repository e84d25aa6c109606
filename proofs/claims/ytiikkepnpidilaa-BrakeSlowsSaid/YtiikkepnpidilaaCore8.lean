/-
  CORE 8: a call by its contract (the callee's small heap laid into the caller's).
-/
import Derived.Test.YtiikkepnpidilaaCore7
set_option linter.unusedVariables false
set_option linter.unusedSimpArgs false
namespace Go.Ab

structure CallR (P : Program) where
  f : FuncId
  args : List AV
  h : Heap
  v : AV
  h' : Heap
  σ : List (Nat × Nat)
  pf : Does P f args h v h'
def CallR.mk' {P : Program} {f : FuncId} {args : List AV} {h : Heap} {v : AV} {h' : Heap} (σ : List (Nat × Nat)) (pf : Does P f args h v h') : CallR P := ⟨f, args, h, v, h', σ, pf⟩

/-- What is owed of a block that is handed to a callee who only reads it. -/
def roMatch (σ : List (Nat × Nat)) (n new off : Nat) (cb : Cells) (want : Cells) : Ob :=
  match want, cb with
  | .sym l, .sym l' => if off = 0 then .vals l' l else .vals ((l'.drop off).take l.length) l
  | .sym l, .lit l' => .ovals (AV.plains? ((l'.drop off).take l.length)) (some l)
  | .lit l, .lit l' => .avs ((l'.drop off).take l.length) (renL σ n new l)
  | .lit l, .sym l' => .ovals (AV.plains? l) (some ((l'.drop off).take l.length))
  | .rows l, .rows l' => if off = 0 then .rows l' l else .prop False True
  | _, _ => .prop False True

/-- The blocks of the callee's heap, one by one: what is owed, and how each is left. -/
def footBlocks (H : Nat → Ent) (σ : List (Nat × Nat)) (n new : Nat) : List (Nat × Nat) → List Ent → List Ent → Option (List Ob × List (Nat × Ent))
  | (x, off) :: s, e :: es, e' :: es' =>
    match e with
    | .free => none
    | .dead => footBlocks H σ n new s es es'
    | .live blk => match H x with
      | .live cb =>
        if blk.rw = true then
          if off = 0 then
            match e' with
            | .live blk' => if blk'.rw = true then (footBlocks H σ n new s es es').map fun r => (Ob.blk cb (renBlk σ n new blk) :: r.1, (x, .live (renBlk σ n new blk')) :: r.2) else none
            | _ => (footBlocks H σ n new s es es').map fun r => (Ob.blk cb (renBlk σ n new blk) :: r.1, (x, .dead) :: r.2)
          else none
        else (footBlocks H σ n new s es es').map fun r => (roMatch σ n new off cb.cells blk.cells :: r.1, r.2)
      | _ => none
  | [], [], _ => some ([], [])
  | _, _, _ => none
/-- The callee's new blocks. -/
def newBlocks (σ : List (Nat × Nat)) (n new : Nat) : Nat → List Ent → Option (List (Nat × Ent))
  | _, [] => some []
  | k, .live blk :: es => if blk.rw = true then (newBlocks σ n new (k + 1) es).map ((new + k, .live (renBlk σ n new blk)) :: ·) else none
  | k, _ :: es => (newBlocks σ n new (k + 1) es).map ((new + k, .dead) :: ·)

/-- Two of the callee's blocks, one of them written, are two of the caller's. -/
def apartσ : List (Nat × Nat) → List Ent → Bool
  | (x, _) :: s, e :: es => (match e with
      | .live blk => (s.zip es).all fun q => match q.2 with
        | .live blk' => (!blk.rw && !blk'.rw) || q.1.1 != x
        | _ => true
      | _ => true) && apartσ s es
  | _, _ => true

def coreCall {P : Program} (o : Oper) (E : Operand → AV) (H : Nat → Ent) (new : Nat) (c : CallR P) : Option Eff :=
  match o.op with
  | .call { callee := .value fo, args := as, .. } =>
    match E fo with
    | .fn (.func f) first cap =>
      if f = c.f ∧ c.σ.length = c.h.length ∧ c.h.length ≤ c.h'.length ∧ apartσ c.σ c.h = true ∧ c.σ.all (fun p => decide (p.1 < new)) = true ∧ (okL c.h'.length c.args && okEnts c.h'.length c.h && okEnts c.h'.length c.h' && okA c.h'.length c.v) = true then
        (footBlocks H c.σ c.h.length new c.σ c.h c.h').bind fun fb => (newBlocks c.σ c.h.length new 0 (c.h'.drop c.h.length)).map fun nb =>
          { rb := c.σ.map (·.1), wb := fb.2 ++ nb, nw := c.h'.length - c.h.length, val := renA c.σ c.h.length new c.v,
            ob := .avs (adapts (renL c.σ c.h.length new c.args) (first ++ as.toList.map E ++ cap)) (renL c.σ c.h.length new c.args) :: fb.1 }
      else none
    | _ => none
  | _ => none

mutual
theorem VR_of_plain {ρ : Ren} : ∀ (a : AV) {v : Value}, a.plain? = some v → VR ρ a v
  | .val u, v, h => by simp [AV.plain?] at h; subst h; simp [VR]
  | .agg cs, v, h => by
    simp only [AV.plain?, Option.map_eq_some_iff] at h
    obtain ⟨l, h1, rfl⟩ := h
    simp only [VR]; exact ⟨_, rfl, by simpa using VRs_of_plain cs h1⟩
  | .tup cs, v, h => by
    simp only [AV.plain?, Option.map_eq_some_iff] at h
    obtain ⟨l, h1, rfl⟩ := h
    simp only [VR]; exact ⟨_, rfl, by simpa using VRs_of_plain cs h1⟩
  | .ifc t u, v, h => by
    simp only [AV.plain?, Option.map_eq_some_iff] at h
    obtain ⟨l, h1, rfl⟩ := h
    simp only [VR]; exact ⟨_, rfl, VR_of_plain u h1⟩
  | .fn f a b, v, h => by
    simp only [AV.plain?, Option.bind_eq_some_iff, Option.map_eq_some_iff] at h
    obtain ⟨x, h1, y, h2, rfl⟩ := h
    simp only [VR]; exact ⟨_, _, rfl, by simpa using VRs_of_plain a h1, by simpa using VRs_of_plain b h2⟩
  | .any, _, h => by simp [AV.plain?] at h
  | .ptr .., _, h => by simp [AV.plain?] at h
  | .elt .., _, h => by simp [AV.plain?] at h
  | .slc .., _, h => by simp [AV.plain?] at h
theorem VRs_of_plain {ρ : Ren} : ∀ (as : List AV) {vs : List Value}, AV.plains? as = some vs → VRs ρ as vs
  | [], vs, h => by simp [AV.plains?] at h; subst h; simp [VRs]
  | a :: as, vs, h => by
    simp only [AV.plains?, Option.bind_eq_some_iff, Option.map_eq_some_iff] at h
    obtain ⟨v, h1, l, h2, rfl⟩ := h
    simp only [VRs]; exact ⟨VR_of_plain a h1, VRs_of_plain as h2⟩
end

/-! ### heaps by several updates -/
theorem get_upds : ∀ (wb : List (Nat × Ent)) (h : Heap) (x : Nat), (∃ e, (x, e) ∈ wb ∧ (h.upds wb).get x = e) ∨ ((∀ e, (x, e) ∉ wb) ∧ (h.upds wb).get x = h.get x)
  | [], h, x => .inr ⟨by simp, rfl⟩
  | (b, e) :: wb, h, x => by
    simp only [Heap.upds]
    rcases get_upds wb (h.upd b e) x with ⟨e', h1, h2⟩ | ⟨h1, h2⟩
    · exact .inl ⟨e', List.mem_cons_of_mem _ h1, h2⟩
    · rw [Heap.get_upd] at h2
      by_cases hx : x = b
      · subst hx
        rw [if_pos rfl] at h2
        exact .inl ⟨e, List.mem_cons_self .., h2⟩
      · rw [if_neg hx] at h2
        refine .inr ⟨fun e' he => ?_, h2⟩
        rcases List.mem_cons.1 he with he | he
        · injection he with e1 e2; exact hx e1
        · exact h1 e' he

theorem foot_spec {H : Nat → Ent} {σ : List (Nat × Nat)} {n new : Nat} : ∀ (s : List (Nat × Nat)) (es es' : List Ent) (r : List Ob × List (Nat × Ent)), footBlocks H σ n new s es es' = some r →
    (∀ i, i < es.length → ∃ (x off : Nat), s[i]? = some (x, off) ∧ es[i]? ≠ some .free ∧
      (∀ blk : Blk, es[i]? = some (.live blk) → ∃ cb, H x = .live cb ∧
        ((blk.rw = true ∧ off = 0 ∧ Ob.blk cb (renBlk σ n new blk) ∈ r.1 ∧ ((∃ blk' : Blk, es'[i]? = some (.live blk') ∧ blk'.rw = true ∧ (x, .live (renBlk σ n new blk')) ∈ r.2) ∨ ((∀ blk' : Blk, es'[i]? ≠ some (.live blk')) ∧ (x, .dead) ∈ r.2))) ∨
         (blk.rw = false ∧ roMatch σ n new off cb.cells blk.cells ∈ r.1)))) ∧
    (∀ x e, (x, e) ∈ r.2 → ∃ (i off : Nat) (blk : Blk), s[i]? = some (x, off) ∧ es[i]? = some (.live blk) ∧ blk.rw = true ∧ ((∃ blk' : Blk, es'[i]? = some (.live blk') ∧ blk'.rw = true ∧ e = .live (renBlk σ n new blk')) ∨ e = .dead))
  | [], [], es', r, hr => by
    simp only [footBlocks] at hr; injection hr with hr; subst hr
    exact ⟨fun i hi => by simp at hi, fun x e he => by simp at he⟩
  | (x, off) :: s, [], es', r, hr => by cases es' <;> simp [footBlocks] at hr
  | [], e :: es, es', r, hr => by cases es' <;> simp [footBlocks] at hr
  | (x, off) :: s, e :: es, [], r, hr => by simp [footBlocks] at hr
  | (x, off) :: s, e :: es, e' :: es', r, hr => by
    have shift : ∀ (r0 : List Ob × List (Nat × Ent)), footBlocks H σ n new s es es' = some r0 → (∀ p ∈ r0.1, p ∈ r.1) → (∀ q ∈ r0.2, q ∈ r.2) →
        ∀ i, i < es.length → ∃ (x' off' : Nat), ((x, off) :: s)[i + 1]? = some (x', off') ∧ (e :: es)[i + 1]? ≠ some .free ∧
      (∀ blk : Blk, (e :: es)[i + 1]? = some (.live blk) → ∃ cb, H x' = .live cb ∧
        ((blk.rw = true ∧ off' = 0 ∧ Ob.blk cb (renBlk σ n new blk) ∈ r.1 ∧ ((∃ blk' : Blk, (e' :: es')[i + 1]? = some (.live blk') ∧ blk'.rw = true ∧ (x', .live (renBlk σ n new blk')) ∈ r.2) ∨ ((∀ blk' : Blk, (e' :: es')[i + 1]? ≠ some (.live blk')) ∧ (x', .dead) ∈ r.2))) ∨
         (blk.rw = false ∧ roMatch σ n new off' cb.cells blk.cells ∈ r.1))) := by
      intro r0 h0 hp hq i hi
      obtain ⟨x', off', h1, h2, h3⟩ := (foot_spec s es es' r0 h0).1 i hi
      refine ⟨x', off', by simpa using h1, by simpa using h2, fun blk hb => ?_⟩
      obtain ⟨cb, h4, h5⟩ := h3 blk (by simpa using hb)
      refine ⟨cb, h4, ?_⟩
      rcases h5 with ⟨a1, a2, a3, a4⟩ | ⟨a1, a2⟩
      · refine .inl ⟨a1, a2, hp _ a3, ?_⟩
        rcases a4 with ⟨b', c1, c2, c3⟩ | ⟨c1, c2⟩
        · exact .inl ⟨b', by simpa using c1, c2, hq _ c3⟩
        · exact .inr ⟨by simpa using c1, hq _ c2⟩
      · exact .inr ⟨a1, hp _ a2⟩
    have shift2 : ∀ (r0 : List Ob × List (Nat × Ent)), footBlocks H σ n new s es es' = some r0 → ∀ y u, (y, u) ∈ r0.2 → ∃ (i off' : Nat) (blk : Blk), ((x, off) :: s)[i]? = some (y, off') ∧ (e :: es)[i]? = some (.live blk) ∧ blk.rw = true ∧ ((∃ blk' : Blk, (e' :: es')[i]? = some (.live blk') ∧ blk'.rw = true ∧ u = .live (renBlk σ n new blk')) ∨ u = .dead) := by
      intro r0 h0 y u hy
      obtain ⟨i, off', blk, h1, h2, h3, h4⟩ := (foot_spec s es es' r0 h0).2 y u hy
      exact ⟨i + 1, off', blk, by simpa using h1, by simpa using h2, h3, by simpa using h4⟩
    cases e with
    | free => simp [footBlocks] at hr
    | dead =>
      simp only [footBlocks] at hr
      refine ⟨fun i hi => ?_, shift2 r hr⟩
      cases i with
      | zero => exact ⟨x, off, rfl, by simp, fun blk hb => by simp at hb⟩
      | succ i => exact shift r hr (fun _ h => h) (fun _ h => h) i (by simpa using hi)
    | live blk =>
      simp only [footBlocks] at hr
      cases hH : H x with
      | free => simp [hH] at hr
      | dead => simp [hH] at hr
      | live cb =>
        simp only [hH] at hr
        by_cases hrw : blk.rw = true
        · rw [if_pos hrw] at hr
          by_cases hoff : off = 0
          · rw [if_pos hoff] at hr
            cases e' with
            | live blk' =>
              simp only at hr
              by_cases hrw' : blk'.rw = true
              · rw [if_pos hrw'] at hr
                simp only [Option.map_eq_some_iff] at hr
                obtain ⟨r0, h0, rfl⟩ := hr
                refine ⟨fun i hi => ?_, fun y u hy => ?_⟩
                · cases i with
                  | zero =>
                    refine ⟨x, off, rfl, by simp, fun b hb => ?_⟩
                    simp at hb; subst hb
                    exact ⟨cb, hH, .inl ⟨hrw, hoff, List.mem_cons_self .., .inl ⟨blk', rfl, hrw', List.mem_cons_self ..⟩⟩⟩
                  | succ i => exact shift r0 h0 (fun _ h => List.mem_cons_of_mem _ h) (fun _ h => List.mem_cons_of_mem _ h) i (by simpa using hi)
                · rcases List.mem_cons.1 hy with hy | hy
                  · injection hy with e1 e2; subst e1; subst e2
                    exact ⟨0, off, blk, rfl, rfl, hrw, .inl ⟨blk', rfl, hrw', rfl⟩⟩
                  · exact shift2 r0 h0 y u hy
              · rw [if_neg hrw'] at hr; cases hr
            | dead =>
              simp only [Option.map_eq_some_iff] at hr
              obtain ⟨r0, h0, rfl⟩ := hr
              refine ⟨fun i hi => ?_, fun y u hy => ?_⟩
              · cases i with
                | zero =>
                  refine ⟨x, off, rfl, by simp, fun b hb => ?_⟩
                  simp at hb; subst hb
                  exact ⟨cb, hH, .inl ⟨hrw, hoff, List.mem_cons_self .., .inr ⟨by simp, List.mem_cons_self ..⟩⟩⟩
                | succ i => exact shift r0 h0 (fun _ h => List.mem_cons_of_mem _ h) (fun _ h => List.mem_cons_of_mem _ h) i (by simpa using hi)
              · rcases List.mem_cons.1 hy with hy | hy
                · injection hy with e1 e2; subst e1; subst e2
                  exact ⟨0, off, blk, rfl, rfl, hrw, .inr rfl⟩
                · exact shift2 r0 h0 y u hy
            | free =>
              simp only [Option.map_eq_some_iff] at hr
              obtain ⟨r0, h0, rfl⟩ := hr
              refine ⟨fun i hi => ?_, fun y u hy => ?_⟩
              · cases i with
                | zero =>
                  refine ⟨x, off, rfl, by simp, fun b hb => ?_⟩
                  simp at hb; subst hb
                  exact ⟨cb, hH, .inl ⟨hrw, hoff, List.mem_cons_self .., .inr ⟨by simp, List.mem_cons_self ..⟩⟩⟩
                | succ i => exact shift r0 h0 (fun _ h => List.mem_cons_of_mem _ h) (fun _ h => List.mem_cons_of_mem _ h) i (by simpa using hi)
              · rcases List.mem_cons.1 hy with hy | hy
                · injection hy with e1 e2; subst e1; subst e2
                  exact ⟨0, off, blk, rfl, rfl, hrw, .inr rfl⟩
                · exact shift2 r0 h0 y u hy
          · rw [if_neg hoff] at hr; cases hr
        · rw [if_neg hrw] at hr
          simp only [Option.map_eq_some_iff] at hr
          obtain ⟨r0, h0, rfl⟩ := hr
          refine ⟨fun i hi => ?_, shift2 r0 h0⟩
          cases i with
          | zero =>
            refine ⟨x, off, rfl, by simp, fun b hb => ?_⟩
            simp at hb; subst hb
            exact ⟨cb, hH, .inr ⟨by simpa using hrw, List.mem_cons_self ..⟩⟩
          | succ i => exact shift r0 h0 (fun _ h => List.mem_cons_of_mem _ h) (fun _ h => h) i (by simpa using hi)

theorem new_spec {σ : List (Nat × Nat)} {n new : Nat} : ∀ (es : List Ent) (k : Nat) (r : List (Nat × Ent)), newBlocks σ n new k es = some r →
    (∀ (i : Nat) (blk : Blk), es[i]? = some (.live blk) → blk.rw = true) ∧
    (∀ i, i < es.length → ∃ e, (new + (k + i), e) ∈ r) ∧
    (∀ x e, (x, e) ∈ r → ∃ i, i < es.length ∧ x = new + (k + i) ∧ ((∃ blk : Blk, es[i]? = some (.live blk) ∧ e = .live (renBlk σ n new blk)) ∨ ((∀ blk : Blk, es[i]? ≠ some (.live blk)) ∧ e = .dead)))
  | [], k, r, hr => by
    simp only [newBlocks] at hr; injection hr with hr; subst hr
    exact ⟨fun i blk h => by simp at h, fun i hi => by simp at hi, fun x e he => by simp at he⟩
  | e0 :: es, k, r, hr => by
    have step : ∀ (r0 : List (Nat × Ent)) (u : Ent), newBlocks σ n new (k + 1) es = some r0 → r = (new + k, u) :: r0 → (∀ blk : Blk, e0 = .live blk → blk.rw = true) → ((∃ blk : Blk, e0 = .live blk ∧ u = .live (renBlk σ n new blk)) ∨ ((∀ blk : Blk, e0 ≠ .live blk) ∧ u = .dead)) →
        (∀ (i : Nat) (blk : Blk), (e0 :: es)[i]? = some (.live blk) → blk.rw = true) ∧ (∀ i, i < (e0 :: es).length → ∃ e, (new + (k + i), e) ∈ r) ∧
        (∀ x e, (x, e) ∈ r → ∃ i, i < (e0 :: es).length ∧ x = new + (k + i) ∧ ((∃ blk : Blk, (e0 :: es)[i]? = some (.live blk) ∧ e = .live (renBlk σ n new blk)) ∨ ((∀ blk : Blk, (e0 :: es)[i]? ≠ some (.live blk)) ∧ e = .dead))) := by
      intro r0 u h0 hr' hrw hu
      subst hr'
      obtain ⟨i1, i2, i3⟩ := new_spec es (k + 1) r0 h0
      refine ⟨fun i blk hb => ?_, fun i hi => ?_, fun x e he => ?_⟩
      · cases i with
        | zero => simp at hb; exact hrw blk hb
        | succ i => exact i1 i blk (by simpa using hb)
      · cases i with
        | zero => exact ⟨u, by simp⟩
        | succ i =>
          obtain ⟨e, he⟩ := i2 i (by simpa using hi)
          exact ⟨e, List.mem_cons_of_mem _ (by rw [show k + (i + 1) = k + 1 + i by omega]; exact he)⟩
      · rcases List.mem_cons.1 he with he | he
        · injection he with e1 e2; subst e1; subst e2
          refine ⟨0, by simp, by simp, ?_⟩
          rcases hu with ⟨blk, h1, h2⟩ | ⟨h1, h2⟩
          · exact .inl ⟨blk, by simp [h1], h2⟩
          · exact .inr ⟨fun blk hb => h1 blk (by simpa using hb), h2⟩
        · obtain ⟨i, j1, j2, j3⟩ := i3 x e he
          exact ⟨i + 1, by simp; omega, by omega, by simpa using j3⟩
    cases e0 with
    | live blk =>
      simp only [newBlocks] at hr
      split at hr
      · rename_i hrw
        simp only [Option.map_eq_some_iff] at hr
        obtain ⟨r0, h0, rfl⟩ := hr
        exact step r0 _ h0 rfl (fun b hb => by injection hb with hb; subst hb; exact hrw) (.inl ⟨blk, rfl, rfl⟩)
      · cases hr
    | dead =>
      simp only [newBlocks, Option.map_eq_some_iff] at hr
      obtain ⟨r0, h0, rfl⟩ := hr
      exact step r0 _ h0 rfl (fun b hb => by cases hb) (.inr ⟨(fun b hb => by cases hb), rfl⟩)
    | free =>
      simp only [newBlocks, Option.map_eq_some_iff] at hr
      obtain ⟨r0, h0, rfl⟩ := hr
      exact step r0 _ h0 rfl (fun b hb => by cases hb) (.inr ⟨(fun b hb => by cases hb), rfl⟩)

theorem apartσ_spec : ∀ (s : List (Nat × Nat)) (es : List Ent), apartσ s es = true → ∀ (i j x y a b : Nat) (blk blk' : Blk), i < j → s[i]? = some (x, a) → s[j]? = some (y, b) → es[i]? = some (.live blk) → es[j]? = some (.live blk') → (blk.rw = true ∨ blk'.rw = true) → x ≠ y
  | [], es, _, i, j, x, y, a, b, blk, blk', _, h1, _, _, _, _ => by simp at h1
  | _ :: _, [], _, i, j, x, y, a, b, blk, blk', _, _, _, h3, _, _ => by simp at h3
  | (x0, a0) :: s, e0 :: es, h, i, j, x, y, a, b, blk, blk', hij, h1, h2, h3, h4, h5 => by
    simp only [apartσ, Bool.and_eq_true] at h
    obtain ⟨ha, hb⟩ := h
    cases j with
    | zero => omega
    | succ j =>
      cases i with
      | zero =>
        simp at h1 h3 h2 h4
        obtain ⟨rfl, rfl⟩ := h1
        subst h3
        simp only [List.all_eq_true] at ha
        have := ha ((y, b), .live blk') (List.mem_of_getElem? (i := j) (by simp [List.getElem?_zip_eq_some, h2, h4]))
        simp only [Bool.or_eq_true, Bool.and_eq_true, Bool.not_eq_true', bne_iff_ne, ne_eq] at this
        rcases this with ⟨c1, c2⟩ | c
        · rcases h5 with h5 | h5
          · rw [c1] at h5; cases h5
          · rw [c2] at h5; cases h5
        · exact fun e => c e.symm
      | succ i => exact apartσ_spec s es hb i j x y a b blk blk' (by omega) (by simpa using h1) (by simpa using h2) (by simpa using h3) (by simpa using h4) h5

end Go.Ab
