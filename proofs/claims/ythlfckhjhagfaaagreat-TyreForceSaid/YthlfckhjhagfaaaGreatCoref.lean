/- An engine that names no program: what code does to what memory shows, evaluated over abstract values and an abstract heap, and that it is so. -/
import Derived.Test.YthlfckhjhagfaaaGreatCoree
import Derived.OpenShut
import Derived.WideShapes
import Derived.ChangeOld
import Derived.Carry
import Derived.ChangeShapes
import Derived.Below
import Derived.RowKit
set_option linter.unusedVariables false
set_option linter.unusedSimpArgs false
namespace Go.Ab
theorem callR_ok {P : Program} {Γ : Ctx} {ρ : Ren} {h : Heap} {w : World} (hI : Inv Γ ρ h w) {c : CallR P} {args : List AV} {cargs : Array Value} {H : Nat → Ent} {new : Nat} (hall : VRs ρ args cargs.toList) (hargs : adapts (renL c.σ c.h.length new c.args) args = renL c.σ c.h.length new c.args)
    (hlen : c.σ.length = c.h.length) (hle : c.h.length ≤ c.h'.length) (hap : apartσ c.σ c.h = true) (hσlt : c.σ.all (fun p => decide (p.1 < new)) = true) (hok : (okL c.h'.length c.args && okEnts c.h'.length c.h && okEnts c.h'.length c.h' && okA c.h'.length c.v) = true)
    {fb : List Ob × List (Nat × Ent)} {nb : List (Nat × Ent)} (hfb : footBlocks H c.σ c.h.length new c.σ c.h c.h' = some fb) (hnb : newBlocks c.σ c.h.length new 0 (c.h'.drop c.h.length) = some nb) (hobs : ∀ p ∈ fb.1, p.holds)
    (hH : ∀ b ∈ c.σ.map (·.1), h.get b = H b) (hn : Γ.n0 ≤ new) (hfree : ∀ x, new ≤ x → x < new + (c.h'.length - c.h.length) → h.get x = .free) :
    Invokes P c.f cargs w fun en w' => ∃ ρ' cv, en = .returned cv ∧ ρ.le ρ' ∧ VR ρ' (renA c.σ c.h.length new c.v) cv ∧ Inv Γ ρ' (h.upds (fb.2 ++ nb)) w' := by
  simp only [Bool.and_eq_true] at hok
  obtain ⟨⟨⟨okargs, okh⟩, okh'⟩, okv⟩ := hok
  obtain ⟨foot, footw⟩ := foot_spec c.σ c.h c.h' fb hfb
  obtain ⟨new1, new2, new3⟩ := new_spec _ 0 nb hnb
  -- the callee's renaming
  let ρg : Ren := ⟨fun i => match c.σ[i]? with
    | some (x, off) => (ρ x).map fun c => (c.1, c.2.1 + off, c.2.2)
    | none => none, ρ.base⟩
  have tied : Tied c.σ c.h.length new c.h'.length ρ ρg := by
    refine ⟨hlen, rfl, fun b x off hb => by simp only [ρg, hb], fun b hb hbm => ?_⟩
    have h1 : ρg b = none := by
      have : c.σ[b]? = none := List.getElem?_eq_none (by omega)
      simp only [ρg, this]
    rw [h1, hI.sim.dom _ (hfree _ (by omega) (by omega))]
  have lt_of : ∀ i blk, c.h.get i = .live blk → i < c.h.length := fun i blk hi => by
    rcases Nat.lt_or_ge i c.h.length with h' | h'
    · exact h'
    · simp [Heap.get, List.getD_eq_getElem?_getD, List.getElem?_eq_none h'] at hi
  have get_of : ∀ i blk, c.h.get i = .live blk → c.h[i]? = some (.live blk) := fun i blk hi => by
    have := lt_of i blk hi
    rw [Heap.get, List.getD_eq_getElem?_getD, List.getElem?_eq_getElem this] at hi
    rw [List.getElem?_eq_getElem this]; simpa using hi
  -- a live block of the callee's heap, seen from the caller
  have liveb : ∀ i blk, c.h.get i = .live blk → ∃ x off cb, c.σ[i]? = some (x, off) ∧ h.get x = .live cb ∧
      ((blk.rw = true ∧ off = 0 ∧ cb = renBlk c.σ c.h.length new blk ∧ ((∃ blk' : Blk, c.h'[i]? = some (.live blk') ∧ blk'.rw = true ∧ (x, .live (renBlk c.σ c.h.length new blk')) ∈ fb.2) ∨ ((∀ blk' : Blk, c.h'[i]? ≠ some (.live blk')) ∧ (x, .dead) ∈ fb.2))) ∨
       (blk.rw = false ∧ (roMatch c.σ c.h.length new off cb.cells blk.cells).holds)) := by
    intro i blk hi
    obtain ⟨x, off, h1, h2, h3⟩ := foot i (lt_of i blk hi)
    obtain ⟨cb, h4, h5⟩ := h3 blk (get_of i blk hi)
    have hx : h.get x = H x := hH x (List.mem_map.2 ⟨(x, off), List.mem_of_getElem? h1, rfl⟩)
    refine ⟨x, off, cb, h1, by rw [hx, h4], ?_⟩
    rcases h5 with ⟨a1, a2, a3, a4⟩ | ⟨a1, a2⟩
    · exact .inl ⟨a1, a2, hobs _ a3, a4⟩
    · exact .inr ⟨a1, hobs _ a2⟩
  have ρg_of : ∀ i x off, c.σ[i]? = some (x, off) → ∀ d, ρg i = some d → ∃ d0, ρ x = some d0 ∧ d = (d0.1, d0.2.1 + off, d0.2.2) := by
    intro i x off hx d hd
    rw [tied.old i x off hx] at hd
    simp only [Option.map_eq_some_iff] at hd
    obtain ⟨d0, h1, h2⟩ := hd
    exact ⟨d0, h1, h2.symm⟩
  -- solidity carries over
  have solid_up : ∀ i blk x off cb, c.h.get i = .live blk → c.σ[i]? = some (x, off) → h.get x = .live cb → ∀ d d0, d = (d0.1, d0.2.1 + off, d0.2.2) → blk.solid d → cb.solid d0 := by
    intro i blk x off cb hi hx hcb d d0 hd hs
    obtain ⟨x', off', cb', h1, h2, h3⟩ := liveb i blk hi
    rw [hx] at h1; injection h1 with h1; injection h1 with e1 e2; subst e1; subst e2
    rw [hcb] at h2; injection h2 with h2; subst h2
    subst hd
    rcases h3 with ⟨a1, a2, a3, _⟩ | ⟨a1, a2⟩
    · subst a3
      rcases hs with hs | hs
      · exact .inl (by simpa [renBlk, renCells_len] using hs)
      · exact .inr ⟨by simpa [renBlk] using hs.1, hs.2⟩
    · rcases hs with hs | hs
      · refine .inl ?_
        unfold roMatch at a2
        split at a2
        · rename_i l l' e1 e2
          rw [e1] at hs
          rw [e2]
          simp only [Cells.len] at *
          split at a2
          · have a2 : l' = l := a2
            subst a2; exact hs
          · have := congrArg List.length a2; simp at this; omega
        · rename_i l l' e1 e2
          rw [e1] at hs; rw [e2]; simp only [Cells.len] at *
          have h9 : ∀ (as : List AV) (vs : List Value), AV.plains? as = some vs → as.length = vs.length := by
            intro as
            induction as with
            | nil => intro vs hv; simp [AV.plains?] at hv; subst hv; rfl
            | cons y ys ih =>
              intro vs hv
              simp only [AV.plains?, Option.bind_eq_some_iff, Option.map_eq_some_iff] at hv
              obtain ⟨v, _, l2, h2, rfl⟩ := hv
              simp [ih l2 h2]
          have := h9 _ _ a2; simp at this; omega
        · rename_i l l' e1 e2
          rw [e1] at hs; rw [e2]; simp only [Cells.len] at *
          have := congrArg List.length a2; simp [renL_length] at this; omega
        · rename_i l l' e1 e2
          rw [e1] at hs; rw [e2]; simp only [Cells.len] at *
          have h9 : ∀ (as : List AV) (vs : List Value), AV.plains? as = some vs → as.length = vs.length := by
            intro as
            induction as with
            | nil => intro vs hv; simp [AV.plains?] at hv; subst hv; rfl
            | cons y ys ih =>
              intro vs hv
              simp only [AV.plains?, Option.bind_eq_some_iff, Option.map_eq_some_iff] at hv
              obtain ⟨v, _, l2, h2, rfl⟩ := hv
              simp [ih l2 h2]
          have := h9 _ _ a2; simp at this; omega
        · rename_i l l' e1 e2
          rw [e1] at hs; rw [e2]; simp only [Cells.len] at *
          split at a2
          · have a2 : l' = l := a2
            rw [a2]; exact hs
          · exact absurd (show False = True from a2) (by simp)
        · rename_i s l s' l' e1 e2
          rw [e1] at hs; rw [e2]
          split at a2
          · have a2 : (⟨.arr s' l', false, none⟩ : Blk) = ⟨.arr s l, false, none⟩ := a2
            rw [(Blk.mk.inj a2).1]; exact hs
          · exact absurd (show False = True from a2) (by simp)
        · exact absurd (show False = True from a2) (by simp)
      · rw [a1] at hs; exact absurd hs.1 (by simp)
  have simg : Sim ρg c.h w := by
    refine ⟨fun i blk hi => ?_, fun i blk d hi hd => ?_, fun i blk d hi hd hs => ?_, fun i blk d hi hd hr hs => ?_, fun i j blk blk' d d' hi hj hij hd hd' hr hs hs' => ?_, fun i hi => ?_, hI.sim.baseLe, hI.sim.old, fun i blk d hi hd hr hs => ?_⟩
    · obtain ⟨x, off, cb, h1, h2, _⟩ := liveb i blk hi
      obtain ⟨d, hd⟩ := hI.sim.some_ x cb h2
      exact ⟨_, by rw [tied.old i x off h1, hd]; rfl⟩
    · obtain ⟨x, off, cb, h1, h2, h3⟩ := liveb i blk hi
      obtain ⟨d0, h4, rfl⟩ := ρg_of i x off h1 d hd
      have hca := hI.sim.cells x cb d0 h2 h4
      rcases h3 with ⟨a1, a2, a3, _⟩ | ⟨a1, a2⟩
      · subst a3; subst a2
        exact (CellsAt.ren tied w _ _ _ (okEnts_get okh (get_of i blk hi))).1 hca
      · simp only
        unfold roMatch at a2
        split at a2
        · rename_i l l' e1 e2
          rw [e2] at hca; rw [e1]
          intro k v hk
          have hkl : k < l.length := by
            rcases Nat.lt_or_ge k l.length with h' | h'
            · exact h'
            · simp [List.getElem?_eq_none h'] at hk
          split at a2
          · rename_i e0; have a2 : l' = l := a2; subst e0; subst a2; exact hca k v hk
          · have a2 : (l'.drop off).take l.length = l := a2
            have hk2 : l'[off + k]? = some v := by
              rw [← a2, List.getElem?_take, if_pos hkl, List.getElem?_drop] at hk; exact hk
            rw [Nat.add_assoc]; exact hca _ v hk2
        · rename_i l l' e1 e2
          rw [e2] at hca; rw [e1]
          intro k v hk
          have hkl : k < l.length := by
            rcases Nat.lt_or_ge k l.length with h' | h'
            · exact h'
            · simp [List.getElem?_eq_none h'] at hk
          obtain ⟨cs, h5, h6⟩ := CellsAt.list l' _ hca
          have h7 := plains_eq _ a2 ((h5.drop off).take l.length)
          have hk2 : cs[off + k]? = some v := by
            rw [← h7, List.getElem?_take, if_pos hkl, List.getElem?_drop] at hk; exact hk
          rw [Nat.add_assoc]; exact h6 _ v hk2
        · rename_i l l' e1 e2
          rw [e2] at hca; rw [e1]
          refine (CellsAt.ren tied w _ _ (.lit l) (by have := okEnts_get okh (get_of i blk hi); rw [e1] at this; exact this)).1 ?_
          simp only [renCells]
          intro k v hk
          have hkl : k < l.length := by
            rcases Nat.lt_or_ge k l.length with h' | h'
            · exact h'
            · have : (renL c.σ c.h.length new l)[k]? = none := List.getElem?_eq_none (by rw [renL_length]; exact h')
              rw [this] at hk; cases hk
          have a2 : (l'.drop off).take l.length = renL c.σ c.h.length new l := a2
          have hk2 : l'[off + k]? = some v := by
            rw [← a2, List.getElem?_take, if_pos hkl, List.getElem?_drop] at hk; exact hk
          rw [Nat.add_assoc]; exact hca _ v hk2
        · rename_i l l' e1 e2
          rw [e2] at hca; rw [e1]
          intro k v hk
          have hkl : k < l.length := by
            rcases Nat.lt_or_ge k l.length with h' | h'
            · exact h'
            · simp [List.getElem?_eq_none h'] at hk
          -- the concrete cells are plain
          obtain ⟨cv, h8, h9⟩ := (VRs_of_plain (ρ := ρg) _ a2).get k v hk
          refine ⟨cv, ?_, h9⟩
          rw [List.getElem?_take, if_pos hkl, List.getElem?_drop] at h8
          rw [Nat.add_assoc]; exact hca _ cv h8
        · rename_i l l' e1 e2
          rw [e2] at hca; rw [e1]
          split at a2
          · rename_i e0
            have a2 : l' = l := a2
            subst e0; subst a2
            exact hca
          · exact absurd (show False = True from a2) (by simp)
        · rename_i s l s' l' e1 e2
          rw [e2] at hca; rw [e1]
          split at a2
          · rename_i e0
            have a2 : (⟨.arr s' l', false, none⟩ : Blk) = ⟨.arr s l, false, none⟩ := a2
            rw [(Blk.mk.inj a2).1] at hca
            subst e0
            exact hca
          · exact absurd (show False = True from a2) (by simp)
        · exact absurd (show False = True from a2) (by simp)
    · obtain ⟨x, off, cb, h1, h2, h3⟩ := liveb i blk hi
      obtain ⟨d0, h4, rfl⟩ := ρg_of i x off h1 d hd
      exact hI.sim.inside x cb d0 h2 h4 (solid_up i blk x off cb hi h1 h2 _ d0 rfl hs)
    · obtain ⟨x, off, cb, h1, h2, h3⟩ := liveb i blk hi
      obtain ⟨d0, h4, rfl⟩ := ρg_of i x off h1 d hd
      rcases h3 with ⟨a1, a2, a3, _⟩ | ⟨a1, a2⟩
      · obtain ⟨b1, cs, el, b2, b3, b4⟩ := hI.sim.own x cb d0 h2 h4 (by rw [a3]; exact hr) (solid_up i blk x off cb hi h1 h2 _ d0 rfl hs)
        subst a2; subst a3
        refine ⟨by simpa using b1, cs, el, b2, by simpa [renBlk, renCells_len] using b3, b4⟩
      · rw [a1] at hr; cases hr
    · obtain ⟨x, off, cb, h1, h2, h3⟩ := liveb i blk hi
      obtain ⟨x', off', cb', h1', h2', h3'⟩ := liveb j blk' hj
      obtain ⟨d0, h4, rfl⟩ := ρg_of i x off h1 d hd
      obtain ⟨d0', h4', rfl⟩ := ρg_of j x' off' h1' d' hd'
      have hne : x ≠ x' := by
        rcases Nat.lt_or_gt_of_ne hij with hlt | hgt
        · exact apartσ_spec _ _ hap i j x x' off off' blk blk' hlt h1 h1' (get_of i blk hi) (get_of j blk' hj) (.inl hr)
        · exact fun e => apartσ_spec _ _ hap j i x' x off' off blk' blk hgt h1' h1 (get_of j blk' hj) (get_of i blk hi) (.inr hr) e.symm
      have hr' : cb.rw = true := by
        rcases h3 with ⟨a1, a2, a3, _⟩ | ⟨a1, a2⟩
        · rw [a3]; exact a1
        · rw [a1] at hr; cases hr
      exact hI.sim.apart x x' cb cb' d0 d0' h2 h2' hne h4 h4' hr' (solid_up i blk x off cb hi h1 h2 _ d0 rfl hs) (solid_up j blk' x' off' cb' hj h1' h2' _ d0' rfl hs')
    · by_cases hi' : i < c.h.length
      · obtain ⟨x, off, h1, h2, _⟩ := foot i hi'
        exfalso
        rw [Heap.get, List.getD_eq_getElem?_getD, List.getElem?_eq_getElem hi'] at hi
        rw [List.getElem?_eq_getElem hi'] at h2
        simp at hi h2; exact h2 hi
      · have : c.σ[i]? = none := List.getElem?_eq_none (by omega)
        simp only [ρg, this]
    · obtain ⟨x, off, cb, h1, h2, h3⟩ := liveb i blk hi
      obtain ⟨d0, h4, rfl⟩ := ρg_of i x off h1 d hd
      have hr' : cb.rw = true := by
        rcases h3 with ⟨a1, a2, a3, _⟩ | ⟨a1, a2⟩
        · rw [a3]; exact a1
        · rw [a1] at hr; cases hr
      exact hI.sim.above x cb d0 h2 h4 hr' (solid_up i blk x off cb hi h1 h2 _ d0 rfl hs)
  -- the arguments
  have hargsC : VRs ρg c.args cargs.toList := by
    refine (VRs.ren tied _ _ okargs).1 ?_
    rw [← hargs]
    exact VRs.adapt _ _ hall
  have hinv := c.pf ρg w _ simg hargsC
  -- what the callee leaves, in the caller's heap
  have finish : ∀ w' ρg' cv, VR ρg' c.v cv → Inv ⟨c.h.length, ρg, c.h, w⟩ ρg' c.h' w' →
      ∃ ρ', ρ.le ρ' ∧ VR ρ' (renA c.σ c.h.length new c.v) cv ∧ Inv Γ ρ' (h.upds (fb.2 ++ nb)) w' := by
    intro w' ρg' cv hv hJ
    let win : Nat → Prop := fun x => new ≤ x ∧ x < new + (c.h'.length - c.h.length)
    let ρ' : Ren := ⟨fun x => if new ≤ x ∧ x < new + (c.h'.length - c.h.length) then ρg' (c.h.length + (x - new)) else ρ x, ρ.base⟩
    have ρ'_old : ∀ x, ¬ win x → ρ' x = ρ x := fun x hx => by simp only [ρ']; rw [if_neg hx]
    have ρ'_new : ∀ k, k < c.h'.length - c.h.length → ρ' (new + k) = ρg' (c.h.length + k) := fun k hk => by simp only [ρ']; rw [if_pos (by omega)]; congr 1; omega
    have notfree : ∀ x d, ρ x = some d → ¬ win x := fun x d hx hw => by
      rw [hI.sim.dom x (hfree x hw.1 hw.2)] at hx; cases hx
    have hle : ρ.le ρ' := ⟨fun x d hx => by rw [ρ'_old x (notfree x d hx)]; exact hx, rfl⟩
    have gagree : ∀ i, i < c.h.length → ρg' i = ρg i := fun i hi => hJ.agree i hi
    have tied' : Tied c.σ c.h.length new c.h'.length ρ' ρg' := by
      refine ⟨hlen, hJ.sameBase, fun b x off hb => ?_, fun b hb hbm => ?_⟩
      · have hbl : b < c.h.length := by
          rcases Nat.lt_or_ge b c.σ.length with h' | h'
          · omega
          · simp [List.getElem?_eq_none h'] at hb
        rw [gagree b hbl, tied.old b x off hb]
        have hx : x < new := by
          have := (List.all_eq_true.1 hσlt) (x, off) (List.mem_of_getElem? hb)
          simpa using this
        rw [ρ'_old x (fun hw => by have := hw.1; omega)]
      · rw [ρ'_new _ (by omega)]; congr 1; omega
    -- the callee's blocks behind the call
    have gnot : ∀ i blk', c.h'.get i = .live blk' → i < c.h'.length := fun i blk' hi => by
      rcases Nat.lt_or_ge i c.h'.length with h' | h'
      · exact h'
      · simp [Heap.get, List.getD_eq_getElem?_getD, List.getElem?_eq_none h'] at hi
    have get_of' : ∀ i blk', c.h'[i]? = some (.live blk') → c.h'.get i = .live blk' := fun i blk' hi => by
      simp [Heap.get, List.getD_eq_getElem?_getD, hi]
    have get_h' : ∀ i blk', c.h'.get i = .live blk' → c.h'[i]? = some (.live blk') := fun i blk' hi => by
      have := gnot i blk' hi
      rw [Heap.get, List.getD_eq_getElem?_getD, List.getElem?_eq_getElem this] at hi
      rw [List.getElem?_eq_getElem this]; simpa using hi
    -- every live block of the new heap: from the callee's footprint or new ones (number j there), or untouched
    have cases_ : ∀ x blk2, (h.upds (fb.2 ++ nb)).get x = .live blk2 →
        (∃ j blk', c.h'.get j = .live blk' ∧ blk2 = renBlk c.σ c.h.length new blk' ∧ blk'.rw = true ∧ (∀ d, ρg' j = some d → ρ' x = some d) ∧ (ρ' x = ρg' j) ∧
          ((j < c.h.length ∧ ∃ blk, c.h.get j = .live blk ∧ blk.rw = true ∧ c.σ[j]? = some (x, 0)) ∨ (c.h.length ≤ j ∧ x = new + (j - c.h.length)))) ∨
        (h.get x = .live blk2 ∧ ¬ win x ∧ ∀ j blk, c.h.get j = .live blk → blk.rw = true → ∀ off, c.σ[j]? ≠ some (x, off)) := by
      intro x blk2 hx
      rcases get_upds (fb.2 ++ nb) h x with ⟨e, he, hg⟩ | ⟨hno, hg⟩
      · rw [hg] at hx; subst hx
        rcases List.mem_append.1 he with he | he
        · obtain ⟨j, off, blk, h1, h2, h3, h4⟩ := footw x _ he
          rcases h4 with ⟨blk', h5, h6, h7⟩ | h4
          · injection h7 with h7; subst h7
            have hj : c.h.get j = .live blk := by simp [Heap.get, List.getD_eq_getElem?_getD, h2]
            obtain ⟨x', off', cb, g1, g2, g3⟩ := liveb j blk hj
            rw [h1] at g1; injection g1 with g1; injection g1 with e1 e2; subst e1; subst e2
            have hoff : off = 0 := by
              rcases g3 with ⟨_, a2, _⟩ | ⟨a1, _⟩
              · exact a2
              · rw [a1] at h3; cases h3
            subst hoff
            have hjl := lt_of j blk hj
            have hρ'x : ρ' x = ρg' j := by
              have := tied'.old j x 0 h1
              rw [this]
              cases ρ' x with
              | none => rfl
              | some d => simp
            exact .inl ⟨j, blk', get_of' j blk' h5, rfl, h6, fun d hd => by rw [hρ'x]; exact hd, hρ'x, .inl ⟨hjl, blk, hj, h3, h1⟩⟩
          · cases h4
        · obtain ⟨i, hi, hxi, h5⟩ := new3 x _ he
          rcases h5 with ⟨blk', h6, h7⟩ | ⟨_, h7⟩
          · injection h7 with h7; subst h7
            rw [List.getElem?_drop] at h6
            have hx2 : x = new + (c.h.length + i - c.h.length) := by omega
            have hi' : i < c.h'.length - c.h.length := by simpa using hi
            have hρ'x : ρ' x = ρg' (c.h.length + i) := by rw [hxi, Nat.zero_add, ρ'_new i hi']
            exact .inl ⟨c.h.length + i, blk', get_of' _ _ h6, rfl, new1 i blk' (by rw [List.getElem?_drop]; exact h6), fun d hd => by rw [hρ'x]; exact hd, hρ'x, .inr ⟨by omega, hx2⟩⟩
          · cases h7
      · rw [hg] at hx
        refine .inr ⟨hx, ?_, ?_⟩
        · intro hw
          rw [hfree x hw.1 hw.2] at hx; cases hx
        · intro j blk hj hrw off hσ
          obtain ⟨x', off', cb, g1, g2, g3⟩ := liveb j blk hj
          rw [hσ] at g1; injection g1 with g1; injection g1 with e1 e2; subst e1; subst e2
          rcases g3 with ⟨_, _, _, ⟨blk', _, _, hm⟩ | ⟨_, hm⟩⟩ | ⟨a1, _⟩
          · exact hno _ (List.mem_append.2 (.inl hm))
          · exact hno _ (List.mem_append.2 (.inl hm))
          · rw [a1] at hrw; cases hrw
    -- a block that the callee owns is one of the caller's, written, and solid
    have owned_up : ∀ i, Ctx.owned ⟨c.h.length, ρg, c.h, w⟩ i → ∃ j blk x cb d, c.h.get j = .live blk ∧ blk.rw = true ∧ c.σ[j]? = some (x, 0) ∧ h.get x = .live cb ∧ cb.rw = true ∧ ρ x = some d ∧ cb.solid d ∧ d.1 = i := by
      rintro i ⟨j, blk, d, hj, hl, hrw, hd, hs, rfl⟩
      obtain ⟨x, off, cb, h1, h2, h3⟩ := liveb j blk hl
      obtain ⟨d0, h4, h5⟩ := ρg_of j x off h1 d hd
      rcases h3 with ⟨a1, a2, a3, _⟩ | ⟨a1, _⟩
      · subst a2
        refine ⟨j, blk, x, cb, d0, hl, hrw, h1, h2, by rw [a3]; exact hrw, h4, solid_up j blk x 0 cb hl h1 h2 d d0 h5 hs, by rw [h5]⟩
      · rw [a1] at hrw; cases hrw
    -- what was not touched stands
    have keepb : ∀ x cb d, h.get x = .live cb → ¬ win x → (∀ j blk, c.h.get j = .live blk → blk.rw = true → ∀ off, c.σ[j]? ≠ some (x, off)) → ρ x = some d → cb.solid d → ¬ Ctx.owned ⟨c.h.length, ρg, c.h, w⟩ d.1 ∧ w'.heap[d.1]? = w.heap[d.1]? := by
      intro x cb d hx hxn hno hd hs
      have hnot : ¬ Ctx.owned ⟨c.h.length, ρg, c.h, w⟩ d.1 := by
        intro hown
        obtain ⟨j, blk, y, yb, dy, h1, h2, h3, h4, h5, h6, h7, h8⟩ := owned_up _ hown
        have hxy : y ≠ x := fun e => hno j blk h1 h2 0 (e ▸ h3)
        exact hI.sim.apart y x yb cb dy d h4 hx hxy h6 hd h5 h7 hs h8
      exact ⟨hnot, hJ.keep _ (hI.sim.inside x cb d hx hd hs) hnot⟩
    have soldn : ∀ blk' d, (renBlk c.σ c.h.length new blk').solid d → blk'.solid d := fun blk' d hs => by
      rcases hs with hs | hs
      · exact .inl (by simpa [renBlk, renCells_len] using hs)
      · exact .inr hs
    have hw := hJ.size
    simp only at hw
    have hJb : ρg'.base = ρ.base := hJ.sameBase
    refine ⟨ρ', hle, (VR.ren tied' _ _ okv).2 hv, ⟨⟨?_, ?_, ?_, ?_, ?_, ?_, ?_, ?_, ?_⟩, ?_, hI.sameBase, hJ.os.trans hI.os, hJ.tape.trans hI.tape, hJ.output.trans hI.output, ?_, ?_, ?_⟩⟩
    · intro x blk2 hx
      rcases cases_ x blk2 hx with ⟨j, blk', h1, h2, h3, h4, h5, _⟩ | ⟨h1, h2, _⟩
      · obtain ⟨d, hd⟩ := hJ.sim.some_ j blk' h1
        exact ⟨d, h4 d hd⟩
      · rw [ρ'_old x h2]; exact hI.sim.some_ x blk2 h1
    · intro x blk2 d hx hd
      rcases cases_ x blk2 hx with ⟨j, blk', h1, h2, h3, h4, h5, _⟩ | ⟨h1, h2, h3⟩
      · subst h2
        rw [h5] at hd
        exact (CellsAt.ren tied' w' _ _ _ (okEnts_get okh' (get_h' j blk' h1))).2 (hJ.sim.cells j blk' d h1 hd)
      · rw [ρ'_old x h2] at hd
        refine ((hI.sim.cells x blk2 d h1 hd).of_cell fun hpos o => ?_).mono hle
        exact cell_of_heap (keepb x blk2 d h1 h2 h3 hd (.inl hpos)).2 o
    · intro x blk2 d hx hd hs
      rcases cases_ x blk2 hx with ⟨j, blk', h1, h2, h3, h4, h5, _⟩ | ⟨h1, h2, h3⟩
      · subst h2
        rw [h5] at hd
        exact hJ.sim.inside j blk' d h1 hd (soldn _ _ hs)
      · rw [ρ'_old x h2] at hd
        have := hI.sim.inside x blk2 d h1 hd hs
        omega
    · intro x blk2 d hx hd hr hs
      rcases cases_ x blk2 hx with ⟨j, blk', h1, h2, h3, h4, h5, _⟩ | ⟨h1, h2, h3⟩
      · subst h2
        rw [h5] at hd
        obtain ⟨b1, cs', el, b2, b3, b4⟩ := hJ.sim.own j blk' d h1 hd h3 (soldn _ _ hs)
        exact ⟨b1, cs', el, b2, by simpa [renBlk, renCells_len] using b3, b4⟩
      · rw [ρ'_old x h2] at hd
        obtain ⟨b1, cs', el, b2, b3⟩ := hI.sim.own x blk2 d h1 hd hr hs
        exact ⟨b1, cs', el, by rw [(keepb x blk2 d h1 h2 h3 hd hs).2]; exact b2, b3⟩
    · intro x y xb yb d d' hx hy hne hd hd' hr hs hs'
      -- a callee's block against an untouched one
      have cross : ∀ j blk' d z zb dz, c.h'.get j = .live blk' → blk'.rw = true → ρg' j = some d → blk'.solid d → h.get z = .live zb → ¬ win z → (∀ j blk, c.h.get j = .live blk → blk.rw = true → ∀ off, c.σ[j]? ≠ some (z, off)) → ρ z = some dz → zb.solid dz → d.1 ≠ dz.1 := by
        intro j blk' d z zb dz hj hrw hd hs hz hzn hno hdz hsz e
        have hin := hI.sim.inside z zb dz hz hdz hsz
        rcases hJ.fresh j blk' d hj hd hrw hs with hf | hf
        · simp only at hf; omega
        · rw [e] at hf; exact (keepb z zb dz hz hzn hno hdz hsz).1 hf
      rcases cases_ x xb hx with ⟨j, blk', h1, h2, h3, h4, h5, h6⟩ | ⟨h1, h2, h3⟩
      · subst h2
        rw [h5] at hd
        rcases cases_ y yb hy with ⟨j', blk'', k1, k2, k3, k4, k5, k6⟩ | ⟨k1, k2, k3⟩
        · subst k2
          rw [k5] at hd'
          have hjj : j ≠ j' := by
            rintro rfl
            rcases h6 with ⟨_, _, _, _, h6⟩ | ⟨h6, h7⟩
            · rcases k6 with ⟨_, _, _, _, k6⟩ | ⟨k6, k7⟩
              · rw [h6] at k6; injection k6 with k6; injection k6 with e1; exact hne e1
              · omega
            · rcases k6 with ⟨k6, _⟩ | ⟨k6, k7⟩
              · omega
              · exact hne (h7.trans k7.symm)
          exact hJ.sim.apart j j' blk' blk'' d d' h1 k1 hjj hd hd' h3 (soldn _ _ hs) (soldn _ _ hs')
        · rw [ρ'_old y k2] at hd'
          exact cross j blk' d y yb d' h1 h3 hd (soldn _ _ hs) k1 k2 k3 hd' hs'
      · rw [ρ'_old x h2] at hd
        rcases cases_ y yb hy with ⟨j', blk'', k1, k2, k3, k4, k5, k6⟩ | ⟨k1, k2, k3⟩
        · subst k2
          rw [k5] at hd'
          exact fun e => cross j' blk'' d' x xb d k1 k3 hd' (soldn _ _ hs') h1 h2 h3 hd hs e.symm
        · rw [ρ'_old y k2] at hd'
          exact hI.sim.apart x y xb yb d d' h1 k1 hne hd hd' hr hs hs'
    · intro x hx
      rcases get_upds (fb.2 ++ nb) h x with ⟨e, he, hg⟩ | ⟨hno, hg⟩
      · exfalso
        rw [hg] at hx; subst hx
        rcases List.mem_append.1 he with he | he
        · obtain ⟨j, off, blk, _, _, _, h4⟩ := footw x _ he
          rcases h4 with ⟨_, _, _, h7⟩ | h4
          · cases h7
          · cases h4
        · obtain ⟨i, _, _, h5⟩ := new3 x _ he
          rcases h5 with ⟨_, _, h7⟩ | ⟨_, h7⟩ <;> cases h7
      · rw [hg] at hx
        by_cases hxn : win x
        · have e1 : x = new + (x - new) := by have := hxn.1; omega
          obtain ⟨e, he⟩ := new2 (x - new) (by have := hxn.1; have := hxn.2; simp; omega)
          exfalso
          exact hno e (List.mem_append.2 (.inr (by rw [Nat.zero_add, ← e1] at he; exact he)))
        · rw [ρ'_old x hxn]; exact hI.sim.dom x hx
    · show ρ.base.heap.size ≤ _
      have := hI.sim.baseLe; omega
    · intro i hi
      have := hJ.sim.old i (by rw [hJb]; exact hi)
      rw [this, hJb]
    · intro x blk2 d hx hd hr hs
      show ρ.base.heap.size ≤ _
      rcases cases_ x blk2 hx with ⟨j, blk', h1, h2, h3, h4, h5, h6⟩ | ⟨h1, h2, h3⟩
      · subst h2
        rw [h5] at hd
        have := hJ.sim.above j blk' d h1 hd h3 (soldn _ _ hs)
        rw [hJb] at this; exact this
      · rw [ρ'_old x h2] at hd
        exact hI.sim.above x blk2 d h1 hd hr hs
    · intro b hb
      rw [ρ'_old b (fun hw => by have := hw.1; omega)]; exact hI.agree b hb
    · have := hI.size; omega
    · intro i hi hno
      rw [hJ.keep i (by simp only; have := hI.size; omega) ?_]
      · exact hI.keep i hi hno
      · intro hown
        obtain ⟨j, blk, y, yb, dy, h1, h2, h3, h4, h5, h6, h7, h8⟩ := owned_up _ hown
        subst h8
        rcases hI.fresh y yb dy h4 h6 h5 h7 with hf | hf
        · omega
        · exact hno hf
    · intro x blk2 d hx hd hr hs
      rcases cases_ x blk2 hx with ⟨j, blk', h1, h2, h3, h4, h5, h6⟩ | ⟨h1, h2, h3⟩
      · subst h2
        rw [h5] at hd
        rcases hJ.fresh j blk' d h1 hd h3 (soldn _ _ hs) with hf | hf
        · simp only at hf; have := hI.size; exact .inl (by omega)
        · obtain ⟨j, blk, y, yb, dy, h1, h2, h3, h4, h5, h6, h7, h8⟩ := owned_up _ hf
          rw [← h8]; exact hI.fresh y yb dy h4 h6 h5 h7
      · rw [ρ'_old x h2] at hd
        exact hI.fresh x blk2 d h1 hd hr hs
  exact hinv.mono fun e w'' ⟨ρg', cv, he, hv, hJ⟩ => by
    obtain ⟨ρ', h1, h2, h3⟩ := finish w'' ρg' cv hv hJ
    exact ⟨ρ', cv, he, h1, h2, h3⟩
def cEnt (cs : List AV) : Ent := .live { cells := .lit cs, rw := true }
theorem Ren.below_eq {ρ ρ2 : Ren} {n : Nat} (h : ∀ b, b < n → ρ2 b = ρ b) (hb : ρ2.base = ρ.base) : ρ2.below n = ρ.below n := by
  unfold Ren.below
  rw [hb]
  congr 1
  funext b
  by_cases hn : b < n
  · simp only [if_pos hn]; exact h b hn
  · simp only [if_neg hn]
theorem Ren.below_le {ρ : Ren} {n : Nat} : (ρ.below n).le ρ := by
  refine ⟨fun b c h => ?_, rfl⟩
  unfold Ren.below at h
  simp only at h
  split at h
  · exact h
  · cases h
theorem settleG {ρ ρ2 : Ren} {es : List Ent} {cs cs' : List AV} (hlen : cs.length = cs'.length) (hok : okL (es.length + 1) cs' = true) {h1 : Heap} {w w2 : World} (hS : Sim ρ (es ++ [cEnt cs]) w) (hro : ∀ b blk, Heap.get es b = .live blk → blk.rw = false) (hI : Inv ⟨es.length + 1, ρ, es ++ [cEnt cs], w⟩ ρ2 h1 w2)
    (hm : h1.get es.length = cEnt cs') : Inv ⟨es.length + 1, ρ, es ++ [cEnt cs], w⟩ ρ (es ++ [cEnt cs']) w2 := by
  have getN : Heap.get (es ++ [cEnt cs]) es.length = cEnt cs := by rw [get_snoc]; simp
  have agr : ρ2 es.length = ρ es.length := hI.agree es.length (Nat.lt_succ_self _)
  have hbase : ρ2.base = ρ.base := hI.sameBase
  have hsz : w.heap.size ≤ w2.heap.size := hI.size
  have sol : ∀ c, Blk.solid { cells := .lit cs', rw := true } c → Blk.solid { cells := .lit cs, rw := true } c := fun c hs => by
    unfold Blk.solid at *
    simp only [Cells.len] at *
    rw [hlen]; exact hs
  have ent : ∀ b blk, Heap.get (es ++ [cEnt cs']) b = .live blk → (b < es.length ∧ Heap.get es b = .live blk ∧ Heap.get (es ++ [cEnt cs]) b = .live blk ∧ blk.rw = false) ∨ (b = es.length ∧ blk = { cells := .lit cs', rw := true }) := fun b blk hb => by
    rw [get_snoc] at hb
    split at hb
    · rename_i hl
      exact .inl ⟨hl, hb, by rw [get_snoc, if_pos hl]; exact hb, hro b blk hb⟩
    · split at hb
      · rename_i h2
        unfold cEnt at hb
        injection hb with hb
        exact .inr ⟨h2, hb.symm⟩
      · cases hb
  have owned_of : ∀ i, Ctx.owned ⟨es.length + 1, ρ, es ++ [cEnt cs], w⟩ i → ∃ c, ρ es.length = some c ∧ Blk.solid { cells := .lit cs, rw := true } c ∧ c.1 = i := by
    rintro i ⟨b, blk, c, hb1, hb2, hb3, hb4, hb5, hb6⟩
    have hb2 : Heap.get (es ++ [cEnt cs]) b = .live blk := hb2
    rw [get_snoc] at hb2
    split at hb2
    · rw [hro b blk hb2] at hb3; cases hb3
    · split at hb2
      · rename_i h2
        unfold cEnt at hb2
        injection hb2 with hb2
        subst hb2
        have hb4 : ρ b = some c := hb4
        rw [h2] at hb4
        exact ⟨c, hb4, hb5, hb6⟩
      · cases hb2
  have keepRo : ∀ b blk c, Heap.get (es ++ [cEnt cs]) b = .live blk → b < es.length → ρ b = some c → blk.solid c → w2.heap[c.1]? = w.heap[c.1]? := fun b blk c hb hlt hc hs => by
    refine hI.keep c.1 (hS.inside b blk c hb hc hs) fun ho => ?_
    obtain ⟨c', k1, k2, k3⟩ := owned_of _ ho
    exact hS.apart es.length b _ blk c' c (by rw [getN]; rfl) hb (by omega) k1 hc rfl k2 hs k3
  have simN : ∀ c, ρ es.length = some c → CellsAt ρ w2 c.1 c.2.1 (.lit cs') := fun c hc => by
    have := hI.sim.cells es.length _ c (by rw [hm]; rfl) (by rw [agr]; exact hc)
    have := CellsAt.below (n := es.length + 1) (cs := .lit cs') hok this
    rw [Ren.below_eq (ρ := ρ) (fun b hb => hI.agree b hb) hbase] at this
    exact this.mono Ren.below_le
  refine ⟨⟨fun b blk hb => ?_, fun b blk c hb hc => ?_, fun b blk c hb hc hs => ?_, fun b blk c hb hc hr hs => ?_, fun b b' blk blk' c c' hb hb' hne hc hc' hr hs hs' => ?_, fun b hb => ?_, ?_, fun i hi => ?_, fun b blk c hb hc hr hs => ?_⟩, fun _ _ => rfl, rfl, hI.os, hI.tape, hI.output, hI.size, hI.keep, fun b blk c hb hc hr hs => ?_⟩
  · rcases ent b blk hb with ⟨h2, h3, h4, h5⟩ | ⟨h2, h3⟩
    · exact hS.some_ b blk h4
    · subst h2; exact hS.some_ _ _ (by rw [getN]; rfl)
  · rcases ent b blk hb with ⟨h2, h3, h4, h5⟩ | ⟨h2, h3⟩
    · exact (hS.cells b blk c h4 hc).of_cell fun hpos o => cell_of_heap (keepRo b blk c h4 h2 hc (.inl hpos)) o
    · subst h2; subst h3; exact simN c hc
  · rcases ent b blk hb with ⟨h2, h3, h4, h5⟩ | ⟨h2, h3⟩
    · have := hS.inside b blk c h4 hc hs; omega
    · subst h2; subst h3
      exact hI.sim.inside es.length _ c (by rw [hm]; rfl) (by rw [agr]; exact hc) hs
  · rcases ent b blk hb with ⟨h2, h3, h4, h5⟩ | ⟨h2, h3⟩
    · rw [h5] at hr; cases hr
    · subst h2; subst h3
      exact hI.sim.own es.length _ c (by rw [hm]; rfl) (by rw [agr]; exact hc) rfl hs
  · rcases ent b blk hb with ⟨h2, h3, h4, h5⟩ | ⟨h2, h3⟩
    · rw [h5] at hr; cases hr
    · subst h2; subst h3
      rcases ent b' blk' hb' with ⟨k2, k3, k4, k5⟩ | ⟨k2, k3⟩
      · exact hS.apart es.length b' _ blk' c c' (by rw [getN]; rfl) k4 hne hc hc' rfl (sol c hs) hs'
      · exact absurd k2.symm hne
  · refine hS.dom b ?_
    rw [get_snoc] at hb ⊢
    split at hb
    · rename_i hl; rw [if_pos hl]; exact hb
    · rename_i hl
      rw [if_neg hl]
      split at hb
      · cases hb
      · rename_i h2; rw [if_neg h2]
  · have := hS.baseLe; omega
  · have := hI.sim.old i (by rw [hbase]; exact hi)
    rw [this, hbase]
  · rcases ent b blk hb with ⟨h2, h3, h4, h5⟩ | ⟨h2, h3⟩
    · rw [h5] at hr; cases hr
    · subst h2; subst h3
      exact hS.above es.length _ c (by rw [getN]; rfl) hc rfl (sol c hs)
  · rcases ent b blk hb with ⟨h2, h3, h4, h5⟩ | ⟨h2, h3⟩
    · rw [h5] at hr; cases hr
    · subst h2; subst h3
      exact .inr ⟨es.length, _, c, Nat.lt_succ_self _, getN, rfl, hc, sol c hs, rfl⟩
abbrev RdT (ms : List Sh) := List Int × Sh.Ts ms
def rdB (l : List Int) : Ent := .live { cells := .arr (.int .u8) l, rw := false }
def rdC (cp : Cap) (ms : List Sh) (m : RdT ms) : List AV := .slc 0 0 m.1.length cp :: (Sh.encs ms m.2).map .val
def InActs (P : Program) (f : FuncId) (cp : Cap) (ms ss rs : List Sh) (law : RdT ms → Sh.Ts ss → Option (RdT ms × Sh.Ts rs)) : Prop :=
  ∀ m x m' y, law m x = some (m', y) → m'.1 = m.1 ∧ Does P f (.ptr 1 0 :: (Sh.encs ss x).map .val) ([rdB m.1] ++ [cEnt (rdC cp ms m)]) (resV ((Sh.encs rs y).map .val)) ([rdB m.1] ++ [cEnt (rdC cp ms m')])
def capEq : Cap → Cap → Bool
  | .exact n, .exact m => decide (n = m)
  | .unk, .unk => true
  | .low, .low => true
  | .part, .part => true
  | .nn, .nn => true
  | _, _ => false
theorem capEq_ok : ∀ {a b : Cap}, capEq a b = true → a = b
  | .exact n, .exact m, h => by simp [capEq] at h; rw [h]
  | .unk, .unk, _ => rfl
  | .low, .low, _ => rfl
  | .part, .part, _ => rfl
  | .nn, .nn, _ => rfl
  | .exact _, .unk, h => by simp [capEq] at h
  | .exact _, .low, h => by simp [capEq] at h
  | .exact _, .part, h => by simp [capEq] at h
  | .exact _, .nn, h => by simp [capEq] at h
  | .unk, .exact _, h => by simp [capEq] at h
  | .unk, .low, h => by simp [capEq] at h
  | .unk, .part, h => by simp [capEq] at h
  | .unk, .nn, h => by simp [capEq] at h
  | .low, .exact _, h => by simp [capEq] at h
  | .low, .unk, h => by simp [capEq] at h
  | .low, .part, h => by simp [capEq] at h
  | .low, .nn, h => by simp [capEq] at h
  | .part, .exact _, h => by simp [capEq] at h
  | .part, .unk, h => by simp [capEq] at h
  | .part, .low, h => by simp [capEq] at h
  | .part, .nn, h => by simp [capEq] at h
  | .nn, .exact _, h => by simp [capEq] at h
  | .nn, .unk, h => by simp [capEq] at h
  | .nn, .low, h => by simp [capEq] at h
  | .nn, .part, h => by simp [capEq] at h
def outI {P : Program} (fn : Func) (cp : Cap) (ms rs : List Sh) (l : List Int) (e : Exit) (t : List AV) (h : Heap) : Option (RdT ms × Sh.Ts rs) :=
  match okExit e with
  | true => (match resA P t h fn.results.toList with
    | some vs => (match Sh.decs rs vs with
      | some (y, []) => (match h.get 1 with
        | .live { cells := .lit (.slc 0 0 n cp' :: cs), rw := true, grow := none } => (match capEq cp' cp with
          | true => (match Sh.decs ms cs with
            | some (m', []) => ifK (decide (n = l.length)) (some ((l, m'), y))
            | _ => none)
          | false => none)
        | _ => none)
      | _ => none)
    | none => none)
  | false => none
def codeLawR (P : Program) (env : Env P) (fuel : Nat) (L : Loops P env.Y) (fn : Func) (c : Code) (cp : Cap) (ms ss rs : List Sh) (m : RdT ms) (x : Sh.Ts ss) : Option (RdT ms × Sh.Ts rs) :=
  codeK P env 2 fuel L [] (.code c) (.ptr 1 0 :: (Sh.encs ss x).map .val ++ List.replicate (fn.ntmps - ((Sh.encs ss x).length + 1)) (.val undef)) ([rdB m.1] ++ [cEnt (rdC cp ms m)]) fun e t h => outI (P := P) fn cp ms rs m.1 e t h
theorem okL_vals (n : Nat) : ∀ l : List Value, okL n (l.map .val) = true
  | [] => rfl
  | v :: l => by simp [okL, okA, okL_vals n l]
theorem rdC_ok (cp : Cap) (ms : List Sh) (m : RdT ms) : okL 2 (rdC cp ms m) = true := by
  simp only [rdC, okL, okA, okL_vals, Bool.and_true, decide_eq_true_eq]; omega
theorem InActs.of_code {P : Program} (hm : P.follows .mixedOrders = true) {f : FuncId} {fn : Func} {c : Code} (hf : P.funcs[f]? = some fn) (hb : fn.body = some c) (hname : (fn.name == "runtime.NumGoroutine") = false)
    (env : Env P) (fuel : Nat) {L : Loops P env.Y} (hL : L.fit c) {cp : Cap} {ms ss rs : List Sh} (hms : Sh.flats ms = true) (hy : ∀ Γ, env.Y Γ := by exact fun _ => True.intro) : InActs P f cp ms ss rs (codeLawR P env fuel L fn c cp ms ss rs) := by
  intro m x m' y hxy
  unfold codeLawR at hxy
  obtain ⟨e, t1, h1, hk, hn1, hg⟩ := codeK_ok hm fuel L [] (.code c) _ _ _ c hL (.inr rfl) (Nat.le_refl 2) hxy
  unfold outI at hk
  split at hk
  case h_2 => cases hk
  rename_i hex
  split at hk
  case h_2 => cases hk
  rename_i vs hvs
  split at hk
  case h_2 => cases hk
  rename_i y' hdec
  split at hk
  case h_2 => cases hk
  rename_i n cp' cs hget
  split at hk
  case h_2 => cases hk
  rename_i hcap
  split at hk
  case h_2 => cases hk
  rename_i m2 hdm
  obtain ⟨hn, hk⟩ := ifK_some hk
  injection hk with hk; injection hk with hk1 hk2; subst hk1; subst hk2
  have hcap := capEq_ok hcap
  have hn : n = m.1.length := by simpa using hn
  subst hcap; subst hn
  refine ⟨rfl, fun ρ w cargs hsim hargs => ?_⟩
  obtain ⟨hfy, hvy⟩ := decs_ok rs vs y' [] hdec
  obtain ⟨hfm, hcm⟩ := decs_ok ms cs m2 [] hdm
  rw [List.append_nil] at hvy hcm
  unfold Invokes
  have hcall : (callFunc f cargs).run P w = .ok (.enter f cargs) w := by
    simp only [callFunc, program, Sem.run_bind, Sem.run, Result.andThen, hf]
    simp only [hname, hb, Option.isNone_some, Bool.false_eq_true, if_false]
    rfl
  rw [hcall]
  simp only
  have hlen := hargs.length
  simp only [List.length_cons, List.length_map] at hlen
  have hro : ∀ b blk, Heap.get [rdB m.1] b = .live blk → blk.rw = false := fun b blk hb => by
    cases b with
    | zero => simp [Heap.get, rdB] at hb; rw [← hb]
    | succ b => simp [Heap.get] at hb
  have hI : Inv ⟨[rdB m.1].length + 1, ρ, [rdB m.1] ++ [cEnt (rdC cp' ms m)], w⟩ ρ ([rdB m.1] ++ [cEnt (rdC cp' ms m)]) w := by
    refine ⟨hsim, fun _ _ => rfl, rfl, rfl, rfl, rfl, Nat.le_refl _, fun _ _ _ => rfl, fun b blk d hb hd hrw hs => ?_⟩
    refine .inr ⟨b, blk, d, ?_, hb, hrw, hd, hs, rfl⟩
    rw [get_snoc] at hb
    show b < _ + 1
    split at hb
    · omega
    · split at hb
      · omega
      · cases hb
  have hV : VRs ρ (.ptr 1 0 :: (Sh.encs ss x).map .val ++ List.replicate (fn.ntmps - ((Sh.encs ss x).length + 1)) (.val undef)) ({ tmps := cargs ++ Array.replicate (fn.ntmps - cargs.size) undef, defers := [] } : Act).tmps.toList := by
    simp only [Array.toList_append, Array.toList_replicate]
    refine hargs.append ?_
    rw [hlen]
    simpa using VRs.replicate (ρ := ρ) (a := .val undef) (v := undef) (by simp [VR]) (fn.ntmps - cargs.size)
  refine calls_of_runs hf hb hg hex rfl (hy _) hI hV fun ρ2 w2 a2 g2 g3 => ?_
  obtain ⟨us, cv, k1, k2, k3⟩ := run_results_list (P := P) g2 g3 hvs
  have hout : VR ρ (resV ((Sh.encs rs y').map .val)) cv := by
    refine k3 ρ _ ?_
    rw [hvy] at k2
    rw [VRs_vals _ _ k2]
    exact VRs.vals _
  have hset := settleG (es := [rdB m.1]) (cs' := rdC cp' ms (m.1, m2)) (by simp [rdC, encs_length ms m.2 hms, encs_length ms m2 hms]) (rdC_ok _ _ _) hsim hro g2 (by
    show h1.get 1 = _
    rw [hget, hcm]; rfl)
  exact ⟨cv, k1, ρ, cv, rfl, hout, hset⟩
theorem InActs.to {P : Program} {f : FuncId} {cp : Cap} {ms ss rs : List Sh} {law law' : RdT ms → Sh.Ts ss → Option (RdT ms × Sh.Ts rs)} (h : InActs P f cp ms ss rs law) (he : ∀ m x, law m x = law' m x) : InActs P f cp ms ss rs law' := fun m x m' y hxy => h m x m' y (by rw [he]; exact hxy)
def inActsS {P : Program} {β : Type} (cp : Cap) (ms ss rs : List Sh) (law : RdT ms → Sh.Ts ss → Option (RdT ms × Sh.Ts rs)) (H : Nat → Ent) (new : Nat) (args : List AV) (K : Eff → Option β) : Option β :=
  match args with
  | .ptr b 0 :: rest => (match H b with
    | .live { cells := .lit (.slc bL 0 n cp' :: cs), rw := true, grow := none } => (match H bL with
      | .live { cells := .arr (.int .u8) l, .. } => (match Sh.decs ms cs, Sh.decs ss rest with
        | some (m, []), some (x, []) => (match capEq cp' cp && (!(b == bL) && (decide (b < new) && decide (bL < new))) with
            | true => ifK (decide (n = l.length)) ((law (l, m) x).bind fun r => K { rb := [bL, b], wb := [(b, cEnt (.slc bL 0 n cp' :: (Sh.encs ms r.1.2).map .val))], val := resV ((Sh.encs rs r.2).map .val) })
            | false => none)
        | _, _ => none)
      | _ => none)
    | _ => none)
  | _ => none
theorem renL_vals (σ : List (Nat × Nat)) (n new : Nat) : ∀ l : List Value, renL σ n new (l.map .val) = l.map .val
  | [] => rfl
  | v :: l => by simp [renL, renA, renL_vals σ n new l]
theorem renA_resV (σ : List (Nat × Nat)) (n new : Nat) (l : List Value) : renA σ n new (resV (l.map .val)) = resV (l.map .val) := by
  unfold resV
  match l with
  | [] => simp [renA, renL]
  | [v] => simp [renA]
  | a :: b :: l => simp [renA, renL, renL_vals]
theorem okA_resV (n : Nat) (l : List Value) : okA n (resV (l.map .val)) = true := by
  unfold resV
  match l with
  | [] => simp [okA, okL]
  | [v] => simp [okA]
  | a :: b :: l => simp [okA, okL, okL_vals]
def InActs.summ {P : Program} {f : FuncId} {cp : Cap} {ms ss rs : List Sh} {law : RdT ms → Sh.Ts ss → Option (RdT ms × Sh.Ts rs)} (hr : InActs P f cp ms ss rs law) : Summ P where
  f := f
  S := fun H new args K => inActsS (P := P) cp ms ss rs law H new args K
  ok := by
    intro β H new args K r hs
    unfold inActsS at hs
    split at hs
    case h_2 => cases hs
    rename_i b rest
    split at hs
    case h_2 => cases hs
    rename_i bL n cp' cs hHb
    split at hs
    case h_2 => cases hs
    rename_i l rw0 g0 hHL
    split at hs
    case h_2 => cases hs
    rename_i m x hdm hdx
    split at hs
    case h_2 => cases hs
    rename_i hcond
    simp only [Bool.and_eq_true, Bool.not_eq_true', beq_eq_false_iff_ne, decide_eq_true_eq] at hcond
    obtain ⟨hcap, hne, hbn, hLn⟩ := hcond
    have hcap := capEq_ok hcap
    subst hcap
    obtain ⟨hn, hs⟩ := ifK_some hs
    have hn : n = l.length := by simpa using hn
    subst hn
    rw [Option.bind_eq_some_iff] at hs
    obtain ⟨⟨m', y⟩, hy, hs⟩ := hs
    obtain ⟨hm1, hdoes⟩ := hr _ _ _ _ hy
    refine ⟨_, hs, fun Γ ρ h w cargs hI hargs hH hn hfree => ?_⟩
    obtain ⟨_, hcs⟩ := decs_ok ms cs m [] hdm
    obtain ⟨_, hrest⟩ := decs_ok ss rest x [] hdx
    rw [List.append_nil] at hcs hrest
    let c : CallR P := CallR.mk' [(bL, 0), (b, 0)] hdoes
    have hm1 : m'.1 = l := hm1
    have key := callR_ok (c := c) hI (args := .ptr b 0 :: rest) (cargs := cargs) (H := H) (new := new) hargs ?_ rfl (Nat.le_refl _) ?_ ?_ ?_ (fb := ([.blk ⟨.arr (.int .u8) l, false, none⟩ ⟨.arr (.int .u8) l, false, none⟩, .blk ⟨.lit (.slc bL 0 l.length cp' :: cs), true, none⟩ ⟨.lit (.slc bL 0 l.length cp' :: cs), true, none⟩], [(b, cEnt (.slc bL 0 l.length cp' :: (Sh.encs ms m'.2).map .val))])) (nb := []) ?_ rfl ?_ ?_ hn ?_
    · have e1 : renA c.σ c.h.length new c.v = resV ((Sh.encs rs y).map .val) := renA_resV _ _ _ _
      rw [e1] at key
      simp only [List.append_nil] at key
      exact key
    · show adapts (renL [(bL, 0), (b, 0)] 2 new (.ptr 1 0 :: (Sh.encs ss x).map .val)) (.ptr b 0 :: rest) = renL [(bL, 0), (b, 0)] 2 new (.ptr 1 0 :: (Sh.encs ss x).map .val)
      have e : renL [(bL, 0), (b, 0)] 2 new (.ptr 1 0 :: (Sh.encs ss x).map .val) = .ptr b 0 :: rest := by
        simp only [renL, renA, renL_vals]
        rw [hrest]; rfl
      rw [e, adapts_self]
    · show apartσ [(bL, 0), (b, 0)] [rdB l, cEnt _] = true
      simp [apartσ, rdB, cEnt, hne]
    · show ([(bL, 0), (b, 0)] : List (Nat × Nat)).all _ = true
      simp [hbn, hLn]
    · show (okL 2 (.ptr 1 0 :: (Sh.encs ss x).map .val) && okEnts 2 [rdB l, cEnt (rdC cp' ms (l, m))] && okEnts 2 [rdB l, cEnt (rdC cp' ms m')] && okA 2 (resV ((Sh.encs rs y).map .val))) = true
      simp only [okL, okA, okL_vals, okEnts, rdB, cEnt, okCells, rdC_ok, okA_resV, Bool.and_true, Bool.true_and, decide_eq_true_eq]
      omega
    · show footBlocks H [(bL, 0), (b, 0)] 2 new [(bL, 0), (b, 0)] [rdB l, cEnt (rdC cp' ms (l, m))] [rdB l, cEnt (rdC cp' ms m')] = _
      have e1 : renBlk [(bL, 0), (b, 0)] 2 new ⟨.lit (rdC cp' ms (l, m)), true, none⟩ = ⟨.lit (.slc bL 0 l.length cp' :: cs), true, none⟩ := by
        simp only [renBlk, renCells, rdC, renL, renA, renL_vals, hcs]
        rfl
      have e2 : renBlk [(bL, 0), (b, 0)] 2 new ⟨.lit (rdC cp' ms m'), true, none⟩ = ⟨.lit (.slc bL 0 l.length cp' :: (Sh.encs ms m'.2).map .val), true, none⟩ := by
        simp only [renBlk, renCells, rdC, renL, renA, renL_vals, hm1]
        rfl
      simp only [footBlocks, rdB, cEnt, hHL, hHb, roMatch, if_true, Bool.false_eq_true, if_false, Option.map_some, e1, e2]
    · intro p hp
      simp only [List.mem_cons, List.not_mem_nil, or_false] at hp
      rcases hp with rfl | rfl <;> rfl
    · intro b' hb'
      exact hH b' hb'
    · intro z h1 h2
      have : c.h'.length - c.h.length = 0 := by show 2 - 2 = 0; rfl
      omega
end Go.Ab
namespace Go.Ab
mutual
def Sh.fits (P : Program) : Sh → TypeId → Bool
  | .int k, t => decide (P.cellsOf t = 1) && (match P.underlying t with
    | some (.int k') => decide (k' = k)
    | _ => false)
  | .bool, t => decide (P.cellsOf t = 1) && (match P.underlying t with
    | some .bool => true
    | _ => false)
  | .str, t => decide (P.cellsOf t = 1) && (match P.underlying t with
    | some .string => true
    | _ => false)
  | .st l, t => decide (P.cellsOf t = Sh.ws l) && (match P.underlying t with
    | some (.struct fs) => Sh.fitsF P l fs.toList 0
    | some (.array n e) => decide (l.length = n) && Sh.fitsE P l e
    | _ => false)
  | .sl e, t => decide (P.cellsOf t = 1) && (match P.underlying t with
    | some (.slice el) => Sh.flat e && Sh.fits P e el && decide (0 < Sh.w e)
    | _ => false)
  | .rows e, t => decide (P.cellsOf t = 1) && (match P.underlying t with
    | some (.slice el) => decide (P.cellsOf el = 1) && (match P.underlying el with
      | some (.slice el2) => Sh.flat e && Sh.fits P e el2 && decide (Sh.w e = 1)
      | _ => false)
    | _ => false)
def Sh.fitsF (P : Program) : List Sh → List Field → Nat → Bool
  | [], [], _ => true
  | s :: l, f :: fs, o => decide (f.offset = o) && Sh.fits P s f.type && Sh.fitsF P l fs (o + Sh.w s)
  | _, _, _ => false
def Sh.fitsE (P : Program) : List Sh → TypeId → Bool
  | [], _ => true
  | s :: l, e => Sh.fits P s e && Sh.fitsE P l e
end
theorem fits_cells {P : Program} {s : Sh} {t : TypeId} (h : s.fits P t = true) : P.cellsOf t = s.w := by
  cases s <;> simp only [Sh.fits, Bool.and_eq_true, decide_eq_true_eq] at h <;> simp [Sh.w, h.1]
theorem wf_range {k : IntKind} {n : Int} (h : (Lit.int k n).wf = true) : k.min ≤ n ∧ n ≤ k.max := by
  simpa [Lit.wf] using h
section
variable {H : Type} {enc : TypeId × Value → H} {P : Program} {W : World} {sp : Nat → Bool}
mutual
theorem flat_open : ∀ (s : Sh) (fuel : Nat) (t : TypeId) (cs : List Value) (x : DataW H × List MemPlace), s.flat = true → s.fits P t = true → DataW.trod enc P W 0 sp true fuel t cs = some x → ∃ y : s.T, s.ok y ∧ cs = s.enc y
  | .int k, fuel, t, cs, x, _, hf, h => by
    simp only [Sh.fits, Bool.and_eq_true] at hf
    have hf := hf.2
    split at hf
    · rename_i k' hu
      have hk : k' = k := by simpa using hf
      subst hk
      obtain ⟨n, h1, _, h3⟩ := DataW.trod_int hu h
      exact ⟨n, by simp only [Sh.ok]; exact wf_range h3, h1⟩
    · cases hf
  | .bool, fuel, t, cs, x, _, hf, h => by
    simp only [Sh.fits, Bool.and_eq_true] at hf
    have hf := hf.2
    split at hf
    · rename_i hu
      obtain ⟨b, h1, _⟩ := DataW.trod_bool hu h
      exact ⟨b, by simp [Sh.ok], h1⟩
    · cases hf
  | .str, fuel, t, cs, x, _, hf, h => by
    simp only [Sh.fits, Bool.and_eq_true] at hf
    have hf := hf.2
    split at hf
    · rename_i hu
      obtain ⟨b, h1, _, h2⟩ := DataW.trod_string hu h
      exact ⟨b, by simp only [Sh.ok]; simpa [maxLen] using h2, h1⟩
    · cases hf
  | .st l, fuel, t, cs, x, hfl, hf, h => by
    simp only [Sh.fits, Bool.and_eq_true, decide_eq_true_eq] at hf
    obtain ⟨hw, hf⟩ := hf
    simp only [Sh.flat] at hfl
    split at hf
    · rename_i fs hu
      obtain ⟨xs, n, _, _, hlen, hxl, hat⟩ := DataW.trod_struct hu h
      obtain ⟨y, h1, h2⟩ := flat_fields l fs.toList 0 n cs xs hfl hf (by simpa using hxl) (fun i f hi => hat i f (by simpa using hi)) (by rw [hlen, hw]; simp)
      exact ⟨y, by simpa [Sh.ok] using h1, by simpa [Sh.enc] using h2⟩
    · rename_i n e hu
      simp only [Bool.and_eq_true, decide_eq_true_eq] at hf
      obtain ⟨xs, m, _, _, hlen, hxl, hat⟩ := DataW.trod_array hu h
      obtain ⟨y, h1, h2⟩ := flat_elems l e 0 m cs xs hfl hf.2 (fun i hi => by
        have := hat i (by omega)
        rw [Nat.zero_add]; exact this) (by omega) (by rw [hlen, hw]; simp)
      exact ⟨y, by simpa [Sh.ok] using h1, by simpa [Sh.enc] using h2⟩
    · cases hf
  | .sl _, _, _, _, _, h, _, _ => by simp [Sh.flat] at h
  | .rows _, _, _, _, _, h, _, _ => by simp [Sh.flat] at h
theorem flat_fields : ∀ (l : List Sh) (fs : List Field) (o n : Nat) (cs : List Value) (xs : List (DataW H × List MemPlace)), Sh.flats l = true → Sh.fitsF P l fs o = true → xs.length = fs.length →
    (∀ (i : Nat) (f : Field), fs[i]? = some f → DataW.trod enc P W 0 sp true n f.type ((cs.drop f.offset).take (P.cellsOf f.type)) = xs[i]?) → cs.length = o + Sh.ws l → ∃ y : Sh.Ts l, Sh.oks l y ∧ cs.drop o = Sh.encs l y
  | [], [], o, n, cs, xs, _, _, _, _, hl => ⟨(), by simp [Sh.oks], by simp [Sh.encs, Sh.ws] at hl ⊢; omega⟩
  | [], _ :: _, o, n, cs, xs, _, hf, _, _, _ => by simp [Sh.fitsF] at hf
  | _ :: _, [], o, n, cs, xs, _, hf, _, _, _ => by simp [Sh.fitsF] at hf
  | s :: l, f :: fs, o, n, cs, xs, hfl, hf, hx, hat, hl => by
    simp only [Sh.flats, Bool.and_eq_true] at hfl
    simp only [Sh.fitsF, Bool.and_eq_true, decide_eq_true_eq] at hf
    obtain ⟨⟨ho, hfs⟩, hfr⟩ := hf
    cases xs with
    | nil => simp at hx
    | cons x xs =>
      have h0 := hat 0 f rfl
      rw [ho, fits_cells hfs] at h0
      obtain ⟨y, h1, h2⟩ := flat_open s n f.type _ x hfl.1 hfs h0
      obtain ⟨ys, h3, h4⟩ := flat_fields l fs (o + s.w) n cs xs hfl.2 hfr (by simpa using hx) (fun i g hi => by simpa using hat (i + 1) g (by simpa using hi)) (by simp only [Sh.ws] at hl; omega)
      refine ⟨(y, ys), by simp only [Sh.oks]; exact ⟨h1, h3⟩, ?_⟩
      simp only [Sh.encs]
      rw [← h2, ← h4, ← List.drop_drop, List.take_append_drop]
theorem flat_elems : ∀ (l : List Sh) (e : TypeId) (k n : Nat) (cs : List Value) (xs : List (DataW H × List MemPlace)), Sh.flats l = true → Sh.fitsE P l e = true →
    (∀ (i : Nat), i < l.length → DataW.trod enc P W 0 sp true n e ((cs.drop ((k + i) * P.cellsOf e)).take (P.cellsOf e)) = xs[k + i]?) → k + l.length ≤ xs.length → cs.length = k * P.cellsOf e + Sh.ws l → ∃ y : Sh.Ts l, Sh.oks l y ∧ cs.drop (k * P.cellsOf e) = Sh.encs l y
  | [], e, k, n, cs, xs, _, _, _, _, hl => ⟨(), by simp [Sh.oks], by simp [Sh.encs, Sh.ws] at hl ⊢; omega⟩
  | s :: l, e, k, n, cs, xs, hfl, hf, hat, hx, hl => by
    simp only [Sh.flats, Bool.and_eq_true] at hfl
    simp only [Sh.fitsE, Bool.and_eq_true] at hf
    have hc := fits_cells hf.1
    have h0 := hat 0 (by simp)
    simp only [Nat.add_zero] at h0
    simp only [List.length_cons] at hx
    obtain ⟨x, hx0⟩ : ∃ x, xs[k]? = some x := ⟨xs[k]'(by omega), List.getElem?_eq_getElem _⟩
    rw [hx0] at h0
    obtain ⟨y, h1, h2⟩ := flat_open s n e _ x hfl.1 hf.1 h0
    obtain ⟨ys, h3, h4⟩ := flat_elems l e (k + 1) n cs xs hfl.2 hf.2 (fun i hi => by
      have := hat (i + 1) (by simpa using hi)
      rw [show k + (i + 1) = k + 1 + i by omega] at this; exact this) (by omega) (by simp only [Sh.ws] at hl; rw [Nat.add_mul, hl, hc]; omega)
    refine ⟨(y, ys), by simp only [Sh.oks]; exact ⟨h1, h3⟩, ?_⟩
    simp only [Sh.encs]
    rw [← h2, ← h4, Nat.add_mul, Nat.one_mul, ← List.drop_drop, List.take_append_drop]
end
theorem cells?_spec {a : Addr} {n : Nat} {cs : List Value} (h : W.cells? 0 a n = some cs) : cs.length = n ∧ ∀ (j : Nat) (v : Value), cs[j]? = some v → W.cell? (a.add j) = some v := by
  simp only [World.cells?, Nat.zero_le, if_true] at h
  have key : ∀ (l : List Nat) (cs : List Value), (l.mapM fun i => W.cell? (a.add i)) = some cs → cs.length = l.length ∧ ∀ (j : Nat) (v : Value), cs[j]? = some v → ∃ i, l[j]? = some i ∧ W.cell? (a.add i) = some v := by
    intro l
    induction l with
    | nil => intro cs h; simp at h; subst h; exact ⟨rfl, fun j v hj => by simp at hj⟩
    | cons i l ih =>
      intro cs h
      simp only [List.mapM_cons, Option.bind_eq_bind, Option.bind_eq_some_iff] at h
      obtain ⟨v0, h0, cs', h1, h2⟩ := h
      simp at h2; subst h2
      obtain ⟨i1, i2⟩ := ih cs' h1
      refine ⟨by simp [i1], fun j v hj => ?_⟩
      cases j with
      | zero => simp at hj; subst hj; exact ⟨i, rfl, h0⟩
      | succ j => simpa using i2 j v (by simpa using hj)
  obtain ⟨h1, h2⟩ := key _ cs h
  refine ⟨by simpa using h1, fun j v hj => ?_⟩
  obtain ⟨i, h3, h4⟩ := h2 j v hj
  have : i = j := by
    rw [List.getElem?_eq_some_iff] at h3
    obtain ⟨h5, h6⟩ := h3
    simpa using h6.symm
  rw [← this]; exact h4
theorem getElem?_flatMap_block {α : Type} (f : α → List Value) (w : Nat) (hw : 0 < w) : ∀ (l : List α), (∀ y ∈ l, (f y).length = w) → ∀ (j : Nat), (l.flatMap f)[j]? = (l[j / w]?).bind fun y => (f y)[j % w]?
  | [], _, j => by simp
  | y :: l, h, j => by
    have hy := h y (List.mem_cons_self ..)
    rw [List.flatMap_cons]
    by_cases hj : j < w
    · rw [List.getElem?_append_left (by omega), Nat.div_eq_of_lt hj, Nat.mod_eq_of_lt hj]; simp
    · rw [List.getElem?_append_right (by omega), hy, getElem?_flatMap_block f w hw l (fun z hz => h z (List.mem_cons_of_mem _ hz))]
      have e1 : j / w = (j - w) / w + 1 := by
        rw [Nat.div_eq_sub_div hw (by omega)]
      have e2 : j % w = (j - w) % w := by
        rw [Nat.mod_eq_sub_mod (by omega)]
      rw [e1, e2]; simp
theorem slice_open {e : Sh} {el : TypeId} {n : Nat} {a : Addr} {len : Nat} {elems : List (DataW H × List MemPlace)} (hfl : e.flat = true) (hf : e.fits P el = true) (hw : 0 < e.w) (hlen : elems.length = len)
    (hat : ∀ i, i < len → (W.cells? 0 (a.add (i * P.cellsOf el)) (P.cellsOf el)).bind (DataW.trod enc P W 0 sp true n el) = elems[i]?) :
    ∃ y : List e.T, y.length = len ∧ (∀ z ∈ y, e.ok z) ∧ ∀ (j : Nat) (v : Value), (y.flatMap e.enc)[j]? = some v → W.cell? (a.add j) = some v := by
  have hc := fits_cells hf
  have key : ∀ k, k ≤ len → ∃ y : List e.T, y.length = k ∧ (∀ z ∈ y, e.ok z) ∧ ∀ (i : Nat) (z : e.T), y[i]? = some z → ∀ (j : Nat) (v : Value), (e.enc z)[j]? = some v → W.cell? (a.add (i * e.w + j)) = some v := by
    intro k
    induction k with
    | zero => intro _; exact ⟨[], rfl, by simp, by simp⟩
    | succ k ih =>
      intro hk
      obtain ⟨y, h1, h2, h3⟩ := ih (by omega)
      have h4 := hat k (by omega)
      obtain ⟨x, hx⟩ : ∃ x, elems[k]? = some x := ⟨elems[k]'(by omega), List.getElem?_eq_getElem _⟩
      rw [hx, Option.bind_eq_some_iff] at h4
      obtain ⟨cs, h5, h6⟩ := h4
      obtain ⟨z, h7, h8⟩ := flat_open e n el cs x hfl hf h6
      obtain ⟨h9, h10⟩ := cells?_spec h5
      refine ⟨y ++ [z], by simp [h1], fun u hu => ?_, fun i u hi j v hj => ?_⟩
      · rcases List.mem_append.1 hu with hu | hu
        · exact h2 u hu
        · simp at hu; subst hu; exact h7
      · by_cases hik : i < k
        · rw [List.getElem?_append_left (by omega)] at hi
          exact h3 i u hi j v hj
        · rw [List.getElem?_append_right (by omega)] at hi
          have : i = k := by
            rcases Nat.lt_or_ge i (k + 1) with h' | h'
            · omega
            · rw [List.getElem?_eq_none (by simp; omega)] at hi; cases hi
          subst this
          simp [h1] at hi; subst hi
          have := h10 j v (by rw [h8]; exact hj)
          rw [hc] at this
          rw [← this]
          congr 1
          unfold Addr.add
          by_cases q1 : i * e.w = 0
          · simp [q1]
          · by_cases q2 : j = 0
            · simp [q2, q1]
            · rw [if_neg (by omega), if_neg q1, if_neg q2]; simp [Nat.add_assoc]
  obtain ⟨y, h1, h2, h3⟩ := key len (Nat.le_refl _)
  refine ⟨y, h1, h2, fun j v hj => ?_⟩
  rw [getElem?_flatMap_block e.enc e.w hw y (fun z _ => enc_length e z hfl), Option.bind_eq_some_iff] at hj
  obtain ⟨z, h4, h5⟩ := hj
  have := h3 (j / e.w) z h4 (j % e.w) v h5
  rw [show j / e.w * e.w + j % e.w = j from Nat.div_add_mod' j e.w] at this
  exact this
theorem spot_none {a : Addr} {v : Value} {j : Nat} (h : W.cell? (a.add j) = some v) : j = 0 → a.spot = none := by
  intro hj; subst hj
  simp only [Addr.add, if_true, World.cell?] at h
  split at h
  · split at h
    · cases h
    · rename_i hs; simpa using hs
  · cases h
def Opens (P : Program) (W : World) (s : Sh) (cs : List Value) : Prop :=
  ∃ y : s.T, s.ok y ∧ ∃ c : List (Nat × Nat × Nat), c.length = s.ne ∧ ∀ (ρ : Ren) (next : Nat), ρ.base = W → (∀ (i : Nat) (d : Nat × Nat × Nat), c[i]? = some d → ρ (next + i) = some d) →
    VRs ρ (s.cells y next) cs ∧ ∀ (i : Nat) (blk : Blk), (s.ents y)[i]? = some (.live blk) → ∃ d : Nat × Nat × Nat, c[i]? = some d ∧ CellsAt ρ W d.1 d.2.1 blk.cells
def OpensL (P : Program) (W : World) (l : List Sh) (cs : List Value) : Prop :=
  ∃ y : Sh.Ts l, Sh.oks l y ∧ ∃ c : List (Nat × Nat × Nat), c.length = Sh.nes l ∧ ∀ (ρ : Ren) (next : Nat), ρ.base = W → (∀ (i : Nat) (d : Nat × Nat × Nat), c[i]? = some d → ρ (next + i) = some d) →
    VRs ρ (Sh.cellss l y next) cs ∧ ∀ (i : Nat) (blk : Blk), (Sh.entss l y)[i]? = some (.live blk) → ∃ d : Nat × Nat × Nat, c[i]? = some d ∧ CellsAt ρ W d.1 d.2.1 blk.cells
theorem OpensL.nil : OpensL P W [] [] := ⟨(), by simp [Sh.oks], [], rfl, fun ρ next _ _ => ⟨by simp [Sh.cellss, VRs], fun i blk h => by simp [Sh.entss] at h⟩⟩
theorem OpensL.cons {s : Sh} {l : List Sh} {c1 c2 : List Value} (h1 : Opens P W s c1) (h2 : OpensL P W l c2) : OpensL P W (s :: l) (c1 ++ c2) := by
  obtain ⟨y, o1, d1, l1, f1⟩ := h1
  obtain ⟨z, o2, d2, l2, f2⟩ := h2
  refine ⟨(y, z), by simp only [Sh.oks]; exact ⟨o1, o2⟩, d1 ++ d2, by simp [Sh.nes, l1, l2], fun ρ next hb hρ => ?_⟩
  obtain ⟨a1, a2⟩ := f1 ρ next hb fun i d hi => hρ i d (by rw [List.getElem?_append_left]; exact hi; exact (List.getElem?_eq_some_iff.1 hi).1)
  obtain ⟨b1, b2⟩ := f2 ρ (next + s.ne) hb fun i d hi => by
    have := hρ (s.ne + i) d (by rw [List.getElem?_append_right (by omega), l1, Nat.add_sub_cancel_left]; exact hi)
    rw [Nat.add_assoc]; exact this
  refine ⟨by simp only [Sh.cellss]; exact a1.append b1, fun i blk hi => ?_⟩
  simp only [Sh.entss] at hi
  have el := ents_length s y
  by_cases hil : i < s.ne
  · rw [List.getElem?_append_left (by omega)] at hi
    obtain ⟨d, h3, h4⟩ := a2 i blk hi
    exact ⟨d, by rw [List.getElem?_append_left (by omega)]; exact h3, h4⟩
  · rw [List.getElem?_append_right (by omega), el] at hi
    obtain ⟨d, h3, h4⟩ := b2 (i - s.ne) blk hi
    exact ⟨d, by rw [List.getElem?_append_right (by omega), l1]; exact h3, h4⟩
end
end Go.Ab
namespace Go.Ab
open Go.ChangeShapes Go.RowKit
section
variable {H : Type} {enc : TypeId × Value → H} {P : Program} {W : World}
theorem add_none {a : Addr} (h : a.spot = none) (j : Nat) : a.add j = ⟨a.block, a.off + j, none⟩ := by
  unfold Addr.add
  split
  · rename_i h0; subst h0; cases a; simp at h; subst h; rfl
  · first | rfl | (rw [h]; done) | (simp [h])
theorem slice_spot {e : Sh} {el : TypeId} {n : Nat} {a : Addr} {len cap : Nat} {elems rest : List (DataW H × List MemPlace)} (hw : 0 < P.cellsOf el) (hlc : len ≤ cap) (hlen : elems.length = len) (hrl : rest.length = cap - len)
    (hat : ∀ i, i < len → (W.cells? 0 (a.add (i * P.cellsOf el)) (P.cellsOf el)).bind (DataW.trod enc P W 0 (fun _ => true) true n el) = elems[i]?)
    (hrt : ∀ j, j < cap - len → (W.cells? 0 (a.add ((len + j) * P.cellsOf el)) (P.cellsOf el)).bind (DataW.trod enc P W 0 (fun _ => true) true n el) = rest[j]?) : cap = 0 ∨ a.spot = none := by
  rcases Nat.eq_zero_or_pos cap with h0 | h0
  · exact .inl h0
  refine .inr ?_
  have key : ∀ (x : Option (DataW H × List MemPlace)), (W.cells? 0 (a.add 0) (P.cellsOf el)).bind (DataW.trod enc P W 0 (fun _ => true) true n el) = x → x ≠ none → a.spot = none := by
    intro x hx hne
    cases hc : W.cells? 0 (a.add 0) (P.cellsOf el) with
    | none => rw [hc] at hx; exact absurd hx.symm hne
    | some cs =>
      obtain ⟨h1, h2⟩ := cells?_spec hc
      have h3 := h2 0 cs[0] (List.getElem?_eq_getElem (by omega))
      have : (a.add 0).add 0 = a.add 0 := by simp [Addr.add]
      rw [this] at h3
      exact spot_none h3 rfl
  by_cases hl : 0 < len
  · have := hat 0 hl
    rw [Nat.zero_mul] at this
    exact key _ this (by rw [List.getElem?_eq_getElem (by omega)]; simp)
  · have := hrt 0 (by omega)
    rw [show len + 0 = 0 by omega, Nat.zero_mul] at this
    exact key _ this (by rw [List.getElem?_eq_getElem (by omega)]; simp)
theorem flatMap_one_length {α : Type} (f : α → List Value) : ∀ (l : List α), (∀ y ∈ l, (f y).length = 1) → (l.flatMap f).length = l.length
  | [], _ => rfl
  | y :: l, h => by
    rw [List.flatMap_cons, List.length_append, h y (List.mem_cons_self ..), flatMap_one_length f l fun z hz => h z (List.mem_cons_of_mem _ hz), List.length_cons, Nat.add_comm]
theorem row_open {e : Sh} {el el2 : TypeId} (hu : P.underlying el = some (.slice el2)) (hfl : e.flat = true) (hf : e.fits P el2 = true) (hw : e.w = 1) {fuel : Nat} {cs : List Value} {x : DataW H × List MemPlace}
    (h : DataW.trod enc P W 0 (fun _ => true) true fuel el cs = some x) : ∃ y : List e.T, ((∀ z ∈ y, e.ok z) ∧ y.length ≤ 9223372036854775807) ∧ ∃ cv, cs = [cv] ∧ RowIn W cv (y.flatMap e.enc) := by
  rcases DataW.trod_slice hu h with ⟨h1, _⟩ | ⟨a, len, cap, elems, rest, n, _, h1, _, _, hlc, hcm, hel, hat, hrt, _⟩
  · exact ⟨[], ⟨by simp, by simp⟩, _, h1, .inl ⟨rfl, none, rfl⟩⟩
  · obtain ⟨y, h2, h3, h4⟩ := slice_open hfl hf (by omega) hel hat
    have hc := fits_cells hf
    have hlen : (y.flatMap e.enc).length = len := by rw [flatMap_one_length _ _ fun z _ => by rw [enc_length e z hfl, hw], h2]
    refine ⟨y, ⟨h3, by simp only [maxLen] at hcm; omega⟩, _, h1, ?_⟩
    obtain ⟨hr1, hr2⟩ := hrt rfl
    rcases slice_spot (e := e) (by omega) hlc hel hr1 hat hr2 with h5 | h5
    · have hl0 : len = 0 := by omega
      subst hl0; subst h5
      exact .inl ⟨List.length_eq_zero_iff.1 hlen, _, rfl⟩
    · refine .inr ⟨a.block, a.off, cap, ?_, by omega, fun j v hj => ?_⟩
      · rw [hlen]; cases a; simp at h5; subst h5; rfl
      · rw [← add_none h5]; exact h4 j v hj
theorem Opens.flat0 {s : Sh} {cs : List Value} {y : s.T} (hy : s.ok y) (hn : s.ne = 0) (hv : ∀ (ρ : Ren) next, VRs ρ (s.cells y next) cs) : Opens P W s cs :=
  ⟨y, hy, [], hn.symm, fun ρ next _ _ => ⟨hv ρ next, fun i blk hi => by
    have := ents_length s y
    rw [hn] at this
    rw [List.length_eq_zero_iff.1 this] at hi
    simp at hi⟩⟩
mutual
theorem open_sh : ∀ (s : Sh) (fuel : Nat) (t : TypeId) (cs : List Value) (x : DataW H × List MemPlace), s.fits P t = true → DataW.trod enc P W 0 (fun _ => true) true fuel t cs = some x → Opens P W s cs
  | .int k, fuel, t, cs, x, hf, h => by
    obtain ⟨y, h1, h2⟩ := flat_open (.int k) fuel t cs x rfl hf h
    exact .flat0 h1 rfl fun ρ next => by rw [h2]; simp [Sh.cells, Sh.enc, VRs, VR]
  | .bool, fuel, t, cs, x, hf, h => by
    obtain ⟨y, h1, h2⟩ := flat_open .bool fuel t cs x rfl hf h
    exact .flat0 h1 rfl fun ρ next => by rw [h2]; simp [Sh.cells, Sh.enc, VRs, VR]
  | .str, fuel, t, cs, x, hf, h => by
    obtain ⟨y, h1, h2⟩ := flat_open .str fuel t cs x rfl hf h
    exact .flat0 h1 rfl fun ρ next => by rw [h2]; simp [Sh.cells, Sh.enc, VRs, VR]
  | .st l, fuel, t, cs, x, hf, h => by
    simp only [Sh.fits, Bool.and_eq_true, decide_eq_true_eq] at hf
    obtain ⟨hw, hf⟩ := hf
    have key : OpensL P W l cs → Opens P W (.st l) cs := by
      rintro ⟨y, h1, c, h2, h3⟩
      exact ⟨y, h1, c, h2, h3⟩
    refine key ?_
    split at hf
    · rename_i fs hu
      obtain ⟨xs, n, _, _, hlen, hxl, hat⟩ := DataW.trod_struct hu h
      exact open_fields l fs.toList 0 n cs xs hf (by simpa using hxl) (fun i f hi => hat i f (by simpa using hi)) (by rw [hlen, hw]; simp)
    · rename_i n e hu
      simp only [Bool.and_eq_true, decide_eq_true_eq] at hf
      obtain ⟨xs, m, _, _, hlen, hxl, hat⟩ := DataW.trod_array hu h
      have := open_elems l e 0 m cs xs hf.2 (fun i hi => by
        have := hat i (by omega)
        rw [Nat.zero_add]; exact this) (by omega) (by rw [hlen, hw]; simp)
      simpa using this
    · cases hf
  | .sl e, fuel, t, cs, x, hf, h => by
    simp only [Sh.fits, Bool.and_eq_true, decide_eq_true_eq] at hf
    obtain ⟨_, hf⟩ := hf
    split at hf
    case h_2 => cases hf
    rename_i el hu
    simp only [Bool.and_eq_true, decide_eq_true_eq] at hf
    obtain ⟨⟨hfl, hfe⟩, hw⟩ := hf
    have hc := fits_cells hfe
    rcases DataW.trod_slice hu h with ⟨h1, _⟩ | ⟨a, len, cap, elems, rest, n, _, h1, _, _, hlc, hcm, hel, hat, hrt, _⟩
    · refine ⟨[], by simp [Sh.ok], [(0, 0, 0)], rfl, fun ρ next hb hρ => ⟨?_, fun i blk hi => ?_⟩⟩
      · simp only [Sh.cells, h1, VRs, VR]
        exact ⟨.inr ⟨rfl, none, rfl⟩, trivial⟩
      · simp only [Sh.ents] at hi
        cases i with
        | succ i => simp at hi
        | zero =>
          simp at hi; subst hi
          exact ⟨(0, 0, 0), rfl, fun j v hj => by simp [Sh.flatl] at hj⟩
    · obtain ⟨y, h2, h3, h4⟩ := slice_open hfl hfe hw hel hat
      obtain ⟨hr1, hr2⟩ := hrt rfl
      have hsp := slice_spot (e := e) (by omega) hlc hel hr1 hat hr2
      refine ⟨y, by simp only [Sh.ok]; exact ⟨h3, by simp only [maxLen] at hcm; omega⟩, [(a.block, a.off, 0)], rfl, fun ρ next hb hρ => ⟨?_, fun i blk hi => ?_⟩⟩
      · simp only [Sh.cells, h1, VRs, VR]
        refine ⟨?_, trivial⟩
        rcases hsp with h5 | h5
        · refine .inr ⟨by rw [h2]; omega, some a, ?_⟩
          rw [h5, show len = 0 by omega]
        · refine .inl ⟨a.block, a.off, 0, cap, by simpa using hρ 0 _ rfl, by omega, ?_⟩
          rw [h2]; cases a; simp at h5; subst h5; rfl
      · simp only [Sh.ents] at hi
        cases i with
        | succ i => simp at hi
        | zero =>
          simp at hi; subst hi
          refine ⟨(a.block, a.off, 0), rfl, fun j v hj => ?_⟩
          rcases hsp with h5 | h5
          · have : y = [] := List.length_eq_zero_iff.1 (by omega)
            subst this; simp [Sh.flatl] at hj
          · show W.cell? ⟨a.block, a.off + j, none⟩ = some v
            rw [← add_none h5]; exact h4 j v hj
  | .rows e, fuel, t, cs, x, hf, h => by
    simp only [Sh.fits, Bool.and_eq_true, decide_eq_true_eq] at hf
    obtain ⟨_, hf⟩ := hf
    split at hf
    case h_2 => cases hf
    rename_i el hu
    simp only [Bool.and_eq_true, decide_eq_true_eq] at hf
    obtain ⟨hc1, hf⟩ := hf
    split at hf
    case h_2 => cases hf
    rename_i el2 hu2
    simp only [Bool.and_eq_true, decide_eq_true_eq] at hf
    obtain ⟨⟨hfl, hfe⟩, hw⟩ := hf
    rcases DataW.trod_slice hu h with ⟨h1, _⟩ | ⟨a, len, cap, elems, rest, n, _, h1, _, _, hlc, hcm, hel, hat, hrt, _⟩
    · refine ⟨[], by simp [Sh.ok], [(0, 0, 0)], rfl, fun ρ next hb hρ => ⟨?_, fun i blk hi => ?_⟩⟩
      · simp only [Sh.cells, h1, VRs, VR]
        exact ⟨.inr ⟨rfl, none, rfl⟩, trivial⟩
      · simp only [Sh.ents] at hi
        cases i with
        | succ i => simp at hi
        | zero =>
          simp at hi; subst hi
          exact ⟨(0, 0, 0), rfl, fun j v hj => by simp at hj⟩
    · obtain ⟨hr1, hr2⟩ := hrt rfl
      have hsp := slice_spot (e := e) (by omega) hlc hel hr1 hat hr2
      have key : ∀ k, k ≤ len → ∃ y : List (List e.T), y.length = k ∧ (∀ r ∈ y, (∀ z ∈ r, e.ok z) ∧ r.length ≤ 9223372036854775807) ∧ ∀ (i : Nat) (r : List e.T), y[i]? = some r → ∃ cv, W.cell? (a.add i) = some cv ∧ RowIn W cv (r.flatMap e.enc) := by
        intro k
        induction k with
        | zero => intro _; exact ⟨[], rfl, by simp, by simp⟩
        | succ k ih =>
          intro hk
          obtain ⟨y, h2, h3, h4⟩ := ih (by omega)
          have h5 := hat k (by omega)
          obtain ⟨x, hx⟩ : ∃ x, elems[k]? = some x := ⟨elems[k]'(by omega), List.getElem?_eq_getElem _⟩
          rw [hx, Option.bind_eq_some_iff, hc1, Nat.mul_one] at h5
          obtain ⟨cs', h6, h7⟩ := h5
          obtain ⟨r, h8, cv, h9, h10⟩ := row_open hu2 hfl hfe hw h7
          obtain ⟨_, h11⟩ := cells?_spec h6
          refine ⟨y ++ [r], by simp [h2], fun r' hr' => ?_, fun i r' hi => ?_⟩
          · rcases List.mem_append.1 hr' with hr' | hr'
            · exact h3 r' hr'
            · simp at hr'; subst hr'; exact h8
          · by_cases hik : i < k
            · rw [List.getElem?_append_left (by omega)] at hi
              exact h4 i r' hi
            · rw [List.getElem?_append_right (by omega)] at hi
              have : i = k := by
                rcases Nat.lt_or_ge i (k + 1) with h' | h'
                · omega
                · rw [List.getElem?_eq_none (by simp; omega)] at hi; cases hi
              subst this
              simp [h2] at hi; subst hi
              have := h11 0 cv (by rw [h9]; rfl)
              exact ⟨cv, by simpa [Addr.add] using this, h10⟩
      obtain ⟨y, h2, h3, h4⟩ := key len (Nat.le_refl _)
      refine ⟨y, by simp only [Sh.ok]; exact ⟨h3, by simp only [maxLen] at hcm; omega⟩, [(a.block, a.off, 0)], rfl, fun ρ next hb hρ => ⟨?_, fun i blk hi => ?_⟩⟩
      · simp only [Sh.cells, h1, VRs, VR]
        refine ⟨?_, trivial⟩
        rcases hsp with h5 | h5
        · refine .inr ⟨by rw [h2]; omega, some a, ?_⟩
          rw [h5, show len = 0 by omega]
        · refine .inl ⟨a.block, a.off, 0, cap, by simpa using hρ 0 _ rfl, by omega, ?_⟩
          rw [h2]; cases a; simp at h5; subst h5; rfl
      · simp only [Sh.ents] at hi
        cases i with
        | succ i => simp at hi
        | zero =>
          simp at hi; subst hi
          refine ⟨(a.block, a.off, 0), rfl, fun j r hj => ?_⟩
          obtain ⟨cv, h6, h7⟩ := h4 j r hj
          refine ⟨cv, ?_, by rw [hb]; exact h7⟩
          rcases hsp with h5 | h5
          · have : y = [] := List.length_eq_zero_iff.1 (by omega)
            subst this; simp at hj
          · show W.cell? ⟨a.block, a.off + j, none⟩ = some cv
            rw [← add_none h5]; exact h6
theorem open_fields : ∀ (l : List Sh) (fs : List Field) (o n : Nat) (cs : List Value) (xs : List (DataW H × List MemPlace)), Sh.fitsF P l fs o = true → xs.length = fs.length →
    (∀ (i : Nat) (f : Field), fs[i]? = some f → DataW.trod enc P W 0 (fun _ => true) true n f.type ((cs.drop f.offset).take (P.cellsOf f.type)) = xs[i]?) → cs.length = o + Sh.ws l → OpensL P W l (cs.drop o)
  | [], [], o, n, cs, xs, _, _, _, hl => by
    have : cs.drop o = [] := by simp [Sh.ws] at hl ⊢; omega
    rw [this]; exact .nil
  | [], _ :: _, o, n, cs, xs, hf, _, _, _ => by simp [Sh.fitsF] at hf
  | _ :: _, [], o, n, cs, xs, hf, _, _, _ => by simp [Sh.fitsF] at hf
  | s :: l, f :: fs, o, n, cs, xs, hf, hx, hat, hl => by
    simp only [Sh.fitsF, Bool.and_eq_true, decide_eq_true_eq] at hf
    obtain ⟨⟨ho, hfs⟩, hfr⟩ := hf
    cases xs with
    | nil => simp at hx
    | cons x xs =>
      have h0 := hat 0 f rfl
      rw [ho, fits_cells hfs] at h0
      have h1 := open_sh s n f.type _ x hfs h0
      have h2 := open_fields l fs (o + s.w) n cs xs hfr (by simpa using hx) (fun i g hi => by simpa using hat (i + 1) g (by simpa using hi)) (by simp only [Sh.ws] at hl; omega)
      have := OpensL.cons h1 h2
      rwa [← List.drop_drop, List.take_append_drop] at this
theorem open_elems : ∀ (l : List Sh) (e : TypeId) (k n : Nat) (cs : List Value) (xs : List (DataW H × List MemPlace)), Sh.fitsE P l e = true →
    (∀ (i : Nat), i < l.length → DataW.trod enc P W 0 (fun _ => true) true n e ((cs.drop ((k + i) * P.cellsOf e)).take (P.cellsOf e)) = xs[k + i]?) → k + l.length ≤ xs.length → cs.length = k * P.cellsOf e + Sh.ws l → OpensL P W l (cs.drop (k * P.cellsOf e))
  | [], e, k, n, cs, xs, _, _, _, hl => by
    have : cs.drop (k * P.cellsOf e) = [] := by simp [Sh.ws] at hl ⊢; omega
    rw [this]; exact .nil
  | s :: l, e, k, n, cs, xs, hf, hat, hx, hl => by
    simp only [Sh.fitsE, Bool.and_eq_true] at hf
    have hc := fits_cells hf.1
    have h0 := hat 0 (by simp)
    simp only [Nat.add_zero] at h0
    simp only [List.length_cons] at hx
    obtain ⟨x, hx0⟩ : ∃ x, xs[k]? = some x := ⟨xs[k]'(by omega), List.getElem?_eq_getElem _⟩
    rw [hx0] at h0
    have h1 := open_sh s n e _ x hf.1 h0
    have h2 := open_elems l e (k + 1) n cs xs hf.2 (fun i hi => by
      have := hat (i + 1) (by simpa using hi)
      rw [show k + (i + 1) = k + 1 + i by omega] at this; exact this) (by omega) (by simp only [Sh.ws] at hl; rw [Nat.add_mul, hl, hc]; omega)
    have := OpensL.cons h1 h2
    rwa [Nat.add_mul, Nat.one_mul, ← List.drop_drop, List.take_append_drop] at this
end
end
end Go.Ab
namespace Go.Ab
open Go.ChangeShapes Go.RowKit Go.WideShapes
def Sh.fitsT (P : Program) : List Sh → List TypeId → Bool
  | [], [] => true
  | s :: l, t :: ts => s.fits P t && Sh.fitsT P l ts
  | _, _ => false
section
variable {H : Type} {enc : TypeId × Value → H} {P : Program} {W : World}
def OpensA (P : Program) (W : World) (l : List Sh) (vs : List Value) : Prop :=
  ∃ y : Sh.Ts l, Sh.oks l y ∧ ∃ c : List (Nat × Nat × Nat), c.length = Sh.nes l ∧ ∀ (ρ : Ren) (next : Nat), ρ.base = W → (∀ (i : Nat) (d : Nat × Nat × Nat), c[i]? = some d → ρ (next + i) = some d) →
    VRs ρ (Sh.args l y next) vs ∧ ∀ (i : Nat) (blk : Blk), (Sh.entss l y)[i]? = some (.live blk) → ∃ d : Nat × Nat × Nat, c[i]? = some d ∧ CellsAt ρ W d.1 d.2.1 blk.cells
theorem arg_open {s : Sh} {t : TypeId} {v : Value} {d : DataW H} {ps : List MemPlace} {base : Nat} (hf : s.fits P t = true) (hval : Value.okWide P W .any base t v) (h : DataW.Trod enc P W 0 (fun _ => true) true t v d ps) : Opens P W s v.cells.toList ∧ ∀ (ρ : Ren) (y : s.T) next, VRs ρ (s.cells y next) v.cells.toList → VR ρ (s.arg y next) v := by
  have hf0 := hf
  obtain ⟨fuel, hd⟩ := h
  refine ⟨open_sh s fuel t _ _ hf hd, ?_⟩
  intro ρ y next hv
  have one : ∀ (a : AV), v.cells = #[v] → VRs ρ [a] v.cells.toList → VR ρ a v := fun a h1 h2 => by
    rw [h1] at h2; simpa [VRs] using h2
  cases s with
  | int k =>
    simp only [Sh.fits, Bool.and_eq_true] at hf
    have hf := hf.2
    split at hf
    · rename_i hu
      obtain ⟨n, rfl⟩ := okWide_int hu hval
      exact one _ rfl hv
    · cases hf
  | bool =>
    simp only [Sh.fits, Bool.and_eq_true] at hf
    have hf := hf.2
    split at hf
    · rename_i hu
      obtain ⟨n, rfl⟩ := okWide_bool hu hval
      exact one _ rfl hv
    · cases hf
  | str =>
    simp only [Sh.fits, Bool.and_eq_true] at hf
    have hf := hf.2
    split at hf
    · rename_i hu
      obtain ⟨n, rfl⟩ := okWide_string hu hval
      exact one _ rfl hv
    · cases hf
  | sl e =>
    simp only [Sh.fits, Bool.and_eq_true] at hf
    have hf := hf.2
    split at hf
    · rename_i hu
      obtain ⟨a, len, cap, rfl⟩ := okWide_slice hu hval
      exact one _ rfl hv
    · cases hf
  | rows e =>
    simp only [Sh.fits, Bool.and_eq_true] at hf
    have hf := hf.2
    split at hf
    · rename_i hu
      obtain ⟨a, len, cap, rfl⟩ := okWide_slice hu hval
      exact one _ rfl hv
    · cases hf
  | st l =>
    have : ∃ cs, v = .agg cs := by
      simp only [Sh.fits, Bool.and_eq_true] at hf
      have hf := hf.2
      split at hf
      · rename_i fs hu
        simp only [Value.okWide, hu] at hval
        obtain ⟨cs, h1, _⟩ := hval
        exact ⟨cs, h1⟩
      · rename_i n e hu
        simp only [Value.okWide, hu] at hval
        obtain ⟨cs, h1, _⟩ := hval
        exact ⟨cs, h1⟩
      · cases hf
    obtain ⟨cs, rfl⟩ := this
    simp only [Sh.arg, VR]
    exact ⟨cs, rfl, by simpa [Value.cells, Sh.cells] using hv⟩
theorem args_open {base : Nat} : ∀ (l : List Sh) (ts : List TypeId) (vs : List Value) (ds : List (DataW H)) (ps : List MemPlace), Sh.fitsT P l ts = true → (∀ (j : Nat) t v, ts[j]? = some t → vs[j]? = some v → Value.okWide P W .any base t v) →
    DataW.TrodAll enc P W 0 (fun _ => true) true ts vs ds ps → OpensA P W l vs
  | [], [], vs, ds, ps, _, _, h => by
    obtain ⟨rfl, _, _⟩ := trodAll_nil h
    exact ⟨(), by simp [Sh.oks], [], rfl, fun ρ next _ _ => ⟨by simp [Sh.args, VRs], fun i blk h => by simp [Sh.entss] at h⟩⟩
  | [], _ :: _, vs, ds, ps, hf, _, _ => by simp [Sh.fitsT] at hf
  | _ :: _, [], vs, ds, ps, hf, _, _ => by simp [Sh.fitsT] at hf
  | s :: l, t :: ts, vs, ds, ps, hf, hval, h => by
    obtain ⟨v, vs', d, ds', p, q, rfl, rfl, rfl, h1, h2⟩ := trodAll_cons h
    simp only [Sh.fitsT, Bool.and_eq_true] at hf
    obtain ⟨⟨y, o1, d1, l1, f1⟩, harg⟩ := arg_open hf.1 (hval 0 t v rfl rfl) h1
    obtain ⟨z, o2, d2, l2, f2⟩ := args_open l ts vs' ds' q hf.2 (fun j t v ht hv => hval (j + 1) t v (by simpa using ht) (by simpa using hv)) h2
    refine ⟨(y, z), by simp only [Sh.oks]; exact ⟨o1, o2⟩, d1 ++ d2, by simp [Sh.nes, l1, l2], fun ρ next hb hρ => ?_⟩
    obtain ⟨a1, a2⟩ := f1 ρ next hb fun i d hi => hρ i d (by rw [List.getElem?_append_left]; exact hi; exact (List.getElem?_eq_some_iff.1 hi).1)
    obtain ⟨b1, b2⟩ := f2 ρ (next + s.ne) hb fun i d hi => by
      have := hρ (s.ne + i) d (by rw [List.getElem?_append_right (by omega), l1, Nat.add_sub_cancel_left]; exact hi)
      rw [Nat.add_assoc]; exact this
    refine ⟨by simp only [Sh.args, VRs]; exact ⟨harg ρ y next a1, b1⟩, fun i blk hi => ?_⟩
    simp only [Sh.entss] at hi
    have el := ents_length s y
    by_cases hil : i < s.ne
    · rw [List.getElem?_append_left (by omega)] at hi
      obtain ⟨d, h3, h4⟩ := a2 i blk hi
      exact ⟨d, by rw [List.getElem?_append_left (by omega)]; exact h3, h4⟩
    · rw [List.getElem?_append_right (by omega), el] at hi
      obtain ⟨d, h3, h4⟩ := b2 (i - s.ne) blk hi
      exact ⟨d, by rw [List.getElem?_append_right (by omega), l1]; exact h3, h4⟩
theorem inside_of {ρ : Ren} {b o : Nat} {cs : Cells} (h : CellsAt ρ W b o cs) (hl : 0 < cs.len) : b < W.heap.size := by
  have key : ∀ off cv, W.cell? ⟨b, off, none⟩ = some cv → b < W.heap.size := fun off cv h => by
    rcases Nat.lt_or_ge b W.heap.size with h' | h'
    · exact h'
    · simp [World.cell?, Array.getElem?_eq_none h'] at h
  cases cs with
  | lit l => obtain ⟨cv, h1, _⟩ := h 0 l[0] (List.getElem?_eq_getElem hl); exact key _ cv h1
  | sym l => exact key _ _ (h 0 l[0] (List.getElem?_eq_getElem hl))
  | rows l => obtain ⟨cv, h1, _⟩ := h 0 l[0] (List.getElem?_eq_getElem hl); exact key _ cv h1
  | arr s l => exact key _ _ (h 0 (s.flatl l)[0] (List.getElem?_eq_getElem hl))
  | arrs s l => obtain ⟨cv, h1, _⟩ := h 0 l[0] (List.getElem?_eq_getElem hl); exact key _ cv h1
theorem sim_open {l : List Sh} {vs : List Value} (h : OpensA P W l vs) : ∃ y : Sh.Ts l, Sh.oks l y ∧ ∃ ρ : Ren, VRs ρ (Sh.args l y 0) vs ∧ Sim ρ (Sh.entss l y) W := by
  obtain ⟨y, hy, c, hc, hf⟩ := h
  have hel := entss_length l y
  obtain ⟨h1, h2⟩ := hf ⟨fun b => c[b]?, W⟩ 0 rfl (fun i d hi => by simpa using hi)
  refine ⟨y, hy, _, h1, ?_⟩
  have live : ∀ b (e : Ent), (Sh.entss l y)[b]? = some e → ∃ blk : Blk, e = .live blk ∧ blk.rw = false ∧ (∀ l, blk.cells ≠ .lit l) := fun b e hb => entss_live l y e (List.mem_of_getElem? hb)
  have at_ : ∀ b blk, Heap.get (Sh.entss l y) b = .live blk → (Sh.entss l y)[b]? = some (.live blk) := fun b blk hb => by
    simp only [Heap.get, List.getD_eq_getElem?_getD] at hb
    cases hq : (Sh.entss l y)[b]? with
    | none => rw [hq] at hb; cases hb
    | some e => rw [hq] at hb; simp at hb; rw [hb]
  have norw : ∀ b blk, Heap.get (Sh.entss l y) b = .live blk → blk.rw = true → False := fun b blk hb hr => by
    obtain ⟨blk', h3, h4, _⟩ := live b _ (at_ b blk hb)
    injection h3 with h3; subst h3; rw [h4] at hr; cases hr
  refine ⟨fun b blk hb => ?_, fun b blk c' hb hc' => ?_, fun b blk c' hb hc' hs => ?_, fun b blk c' hb hc' hr => (norw b blk hb hr).elim, fun b b' blk blk' c' d' hb hb' hne hc' hd' hr => (norw b blk hb hr).elim, fun b hb => ?_, Nat.le_refl _, fun _ _ => rfl, fun b blk c' hb hc' hr => (norw b blk hb hr).elim⟩
  · obtain ⟨d, h3, _⟩ := h2 b blk (at_ b blk hb); exact ⟨d, h3⟩
  · obtain ⟨d, h3, h4⟩ := h2 b blk (at_ b blk hb)
    have : some d = some c' := h3.symm.trans hc'
    injection this with this; subst this; exact h4
  · obtain ⟨d, h3, h4⟩ := h2 b blk (at_ b blk hb)
    have : some d = some c' := h3.symm.trans hc'
    injection this with this; subst this
    refine inside_of h4 ?_
    rcases hs with hs | hs
    · exact hs
    · exact (norw b blk hb hs.1).elim
  · show c[b]? = none
    have hb' : Heap.get (Sh.entss l y) b = .free := hb
    simp only [Heap.get, List.getD_eq_getElem?_getD] at hb'
    cases hq : (Sh.entss l y)[b]? with
    | none =>
      have : (Sh.entss l y).length ≤ b := by simpa using hq
      simp; omega
    | some e =>
      obtain ⟨blk, h3, _⟩ := live b e hq
      rw [hq, h3] at hb'; simp at hb'
theorem trodAll_below (laid : laidOutB P = true) {W' : World} (hb : Below W.heap.size W W') : ∀ (ts : List TypeId) (vs : List Value) (ds : List (DataW H)) (ps : List MemPlace), ts.all (fun t => P.readableRec t && decide (t < P.types.size)) = true →
    DataW.TrodAll enc P W 0 (fun _ => true) true ts vs ds ps → (∀ x ∈ ps, x.block < W.heap.size) → DataW.TrodAll enc P W' 0 (fun b => decide (b < W.heap.size)) true ts vs ds ps
  | [], vs, ds, ps, _, h, _ => by
    obtain ⟨rfl, rfl, rfl⟩ := trodAll_nil h
    exact trodAll_mk0
  | t :: ts, vs, ds, ps, ht, h, hlt => by
    obtain ⟨v, vs', d, ds', p, q, rfl, rfl, rfl, h1, h2⟩ := trodAll_cons h
    simp only [List.all_cons, Bool.and_eq_true, decide_eq_true_eq] at ht
    exact ⟨p, q, Below.trod laid ht.1.1 ht.1.2 h1 hb (fun x hx => hlt x (List.mem_append.2 (.inl hx))), trodAll_below laid hb ts vs' ds' q (by simpa using ht.2) h2 (fun x hx => hlt x (List.mem_append.2 (.inr hx))), rfl⟩
theorem trodAll_lt : ∀ (ts : List TypeId) (vs : List Value) (ds : List (DataW H)) (ps : List MemPlace), DataW.TrodAll enc P W 0 (fun _ => true) true ts vs ds ps → ∀ x ∈ ps, x.block < W.heap.size
  | [], vs, ds, ps, h => by
    obtain ⟨rfl, rfl, rfl⟩ := trodAll_nil h
    simp
  | t :: ts, vs, ds, ps, h => by
    obtain ⟨v, vs', d, ds', p, q, rfl, rfl, rfl, ⟨fuel, h1⟩, h2⟩ := trodAll_cons h
    intro x hx
    rcases List.mem_append.1 hx with hx | hx
    · exact DataW.trod_lt fuel _ _ _ h1 x hx
    · exact trodAll_lt ts vs' ds' q h2 x hx
theorem row_calls (laid : laidOutB P = true) {f : FuncId} {fn : Func} {c : Code} (hfn : P.funcs[f]? = some fn) (hb : fn.body = some c) (hname : (fn.name == "runtime.NumGoroutine") = false) {l : List Sh} {ts : List TypeId} (hf : Sh.fitsT P l ts = true) (hr : ts.all (fun t => P.readableRec t && decide (t < P.types.size)) = true)
    (hd : ∀ y : Sh.Ts l, Sh.oks l y → ∃ h', Does P f (Sh.args l y 0) (Sh.entss l y) (.val (.bool true)) h') {args : Array Value} {ds : List (DataW H)} {ps : List MemPlace} {base : Nat} (hval : ∀ (j : Nat) t v, ts[j]? = some t → args[j]? = some v → Value.okWide P W .any base t v)
    (h : DataW.TrodAll enc P W 0 (fun _ => true) true ts args.toList ds ps) :
    Calls P f args W fun e W' => e = .returned (.bool true) ∧ Below W.heap.size W W' ∧ DataW.TrodAll enc P W' 0 (fun b => decide (b < W.heap.size)) true ts args.toList ds ps := by
  obtain ⟨y, hy, ρ, h1, h2⟩ := sim_open (args_open l ts args.toList ds ps hf (fun j t v ht hv => hval j t v ht (by simpa using hv)) h)
  obtain ⟨h', hdo⟩ := hd y hy
  have hinv := hdo ρ W args h2 h1
  unfold Invokes at hinv
  have hcall : (callFunc f args).run P W = .ok (.enter f args) W := by
    simp only [callFunc, program, Sem.run_bind, Sem.run, Result.andThen, hfn]
    simp only [hname, hb, Option.isNone_some, Bool.false_eq_true, if_false]
    rfl
  rw [hcall] at hinv
  refine hinv.mono fun e W' ⟨ρ', cv, he, hv, hI⟩ => ?_
  simp only [VR] at hv
  subst hv
  have hbel : Below W.heap.size W W' := by
    refine ⟨hI.os, hI.tape, hI.output, hI.size, fun k hk => hI.keep k hk ?_⟩
    rintro ⟨b, blk, c', _, hg, hrw, _⟩
    have hg' : Heap.get (Sh.entss l y) b = .live blk := hg
    simp only [Heap.get, List.getD_eq_getElem?_getD] at hg'
    cases hq : (Sh.entss l y)[b]? with
    | none => rw [hq] at hg'; simp at hg'
    | some e =>
      rw [hq] at hg'; simp at hg'; subst hg'
      obtain ⟨blk', h3, h4, _⟩ := entss_live l y _ (List.mem_of_getElem? hq)
      injection h3 with h3; subst h3; rw [h4] at hrw; cases hrw
  exact ⟨he, hbel, trodAll_below laid hbel ts _ _ _ hr h (trodAll_lt ts _ _ _ h)⟩
end
end Go.Ab
