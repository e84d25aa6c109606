/-
  CORE 9: the call's effect in the caller's heap.
-/
import Derived.Test.YtiikkepnpidilaaCore8
set_option linter.unusedVariables false
set_option linter.unusedSimpArgs false
namespace Go.Ab

/-- One step of a region: the operation is carried out, whatever follows. -/
def LStep (P : Program) (Γ : Ctx) (o : Oper) (ρ : Ren) (h : Heap) (w : World) (a : Act) (e : Eff) : Prop :=
  ∀ K Qc, (∀ ρ' w' cv, ρ.le ρ' → VR ρ' e.val cv → Inv Γ ρ' (h.upds e.wb) w' → K (a.put o.dst cv) w') → o.wp P a w K Qc

theorem lstep_of_ok {P : Program} {Γ : Ctx} {o : Oper} {ρ : Ren} {h : Heap} {w : World} {a : Act} {e : Eff} (hok : OpOK P Γ ρ h w (execOp a.eval o) e) : LStep P Γ o ρ h w a e := by
  intro K Qc hK
  obtain ⟨ρ', nx, cv, w', hr, hn, h1, h2, h3⟩ := hok
  unfold Oper.wp
  rw [hr]
  rcases hn with rfl | ⟨rfl, rfl⟩
  · exact hK ρ' w' cv h1 h2 h3
  · exact hK ρ' w' undef h1 h2 h3

theorem run_callOp {o : Oper} {C : Operand → Value} {fo : Operand} {as : Array Operand} {ts : Array TypeId} {f : FuncId} {fs cs : Array Value} (ho : o.op = .call { callee := .value fo, args := as, argTypes := ts }) (hf : C fo = .func (.func f) fs cs) :
    execOp C o = callFunc f (fs ++ as.map C ++ cs) := by
  simp only [execOp, ho, resolve, hf, Deferred.ofValue]
  show (invoke (.fn (.func f) cs) (fs ++ as.map C)) = _
  rfl

theorem VRs.map {ρ : Ren} {E : Operand → AV} {C : Operand → Value} : ∀ (l : List Operand), (∀ x ∈ l, VR ρ (E x) (C x)) → VRs ρ (l.map E) (l.map C)
  | [], _ => by simp [VRs]
  | x :: l, h => by
    simp only [List.map_cons, VRs]
    exact ⟨h x (List.mem_cons_self ..), VRs.map l fun y hy => h y (List.mem_cons_of_mem _ hy)⟩

theorem coreCall_ok {P : Program} {Γ : Ctx} {ρ : Ren} {h : Heap} {w : World} (hI : Inv Γ ρ h w) {o : Oper} {E : Operand → AV} {a : Act} (hE : ∀ x ∈ o.op.operands, VR ρ (E x) (a.eval x))
    {H : Nat → Ent} {new : Nat} {c : CallR P} {e : Eff} (hc : coreCall o E H new c = some e) (hob : ∀ p ∈ e.ob, p.holds) (hH : ∀ b ∈ e.rb, h.get b = H b) (hn : Γ.n0 ≤ new) (hfree : ∀ x, new ≤ x → x < new + e.nw → h.get x = .free) :
    LStep P Γ o ρ h w a e := by
  unfold coreCall at hc
  split at hc
  case h_2 => cases hc
  rename_i fo as ts hop
  split at hc
  case h_2 => cases hc
  rename_i f first cap hfo
  split at hc
  case isFalse => cases hc
  rename_i hcond
  obtain ⟨rfl, hlen, hle, hap, hσlt, hok⟩ := hcond
  simp only [Bool.and_eq_true] at hok
  obtain ⟨⟨⟨okargs, okh⟩, okh'⟩, okv⟩ := hok
  simp only [Option.bind_eq_some_iff, Option.map_eq_some_iff] at hc
  obtain ⟨fb, hfb, nb, hnb, rfl⟩ := hc
  obtain ⟨foot, footw⟩ := foot_spec c.σ c.h c.h' fb hfb
  obtain ⟨new1, new2, new3⟩ := new_spec _ 0 nb hnb
  simp only [List.mem_cons, forall_eq_or_imp] at hob
  obtain ⟨hargs, hobs⟩ := hob
  -- the callee's renaming
  let ρg : Ren := ⟨fun i => match c.σ[i]? with
    | some (x, off) => (ρ x).map fun c => (c.1, c.2.1 + off, c.2.2)
    | none => none, ρ.base⟩
  have tied : Tied c.σ c.h.length new c.h'.length ρ ρg := by
    refine ⟨hlen, rfl, fun b x off hb => by simp only [ρg, hb], fun b hb hbm => ?_⟩
    have h1 : ρg b = none := by
      have : c.σ[b]? = none := List.getElem?_eq_none (by omega)
      simp only [ρg, this]
    rw [h1, hI.sim.dom _ (hfree _ (by omega) (by simp only; omega))]
  have lt_of : ∀ i blk, c.h.get i = .live blk → i < c.h.length := fun i blk hi => by
    rcases Nat.lt_or_ge i c.h.length with h' | h'
    · exact h'
    · simp [Heap.get, List.getD_eq_getElem?_getD, List.getElem?_eq_none h'] at hi
  have get_of : ∀ i blk, c.h.get i = .live blk → c.h[i]? = some (.live blk) := fun i blk hi => by
    have := lt_of i blk hi
    rw [Heap.get, List.getD_eq_getElem?_getD, List.getElem?_eq_getElem this] at hi
    rw [List.getElem?_eq_getElem this]; simpa using hi
  -- a live block of the callee's heap, seen from the caller
  have liveb : ∀ i blk, c.h.get i = .live blk → ∃ x off cb, c.σ[i]? = some (x, off) ∧ h.get x = .live cb ∧
      ((blk.rw = true ∧ off = 0 ∧ cb = renBlk c.σ c.h.length new blk ∧ ((∃ blk' : Blk, c.h'[i]? = some (.live blk') ∧ blk'.rw = true ∧ (x, .live (renBlk c.σ c.h.length new blk')) ∈ fb.2) ∨ ((∀ blk' : Blk, c.h'[i]? ≠ some (.live blk')) ∧ (x, .dead) ∈ fb.2))) ∨
       (blk.rw = false ∧ (roMatch c.σ c.h.length new off cb.cells blk.cells).holds)) := by
    intro i blk hi
    obtain ⟨x, off, h1, h2, h3⟩ := foot i (lt_of i blk hi)
    obtain ⟨cb, h4, h5⟩ := h3 blk (get_of i blk hi)
    have hx : h.get x = H x := hH x (List.mem_map.2 ⟨(x, off), List.mem_of_getElem? h1, rfl⟩)
    refine ⟨x, off, cb, h1, by rw [hx, h4], ?_⟩
    rcases h5 with ⟨a1, a2, a3, a4⟩ | ⟨a1, a2⟩
    · exact .inl ⟨a1, a2, hobs _ a3, a4⟩
    · exact .inr ⟨a1, hobs _ a2⟩
  have ρg_of : ∀ i x off, c.σ[i]? = some (x, off) → ∀ d, ρg i = some d → ∃ d0, ρ x = some d0 ∧ d = (d0.1, d0.2.1 + off, d0.2.2) := by
    intro i x off hx d hd
    rw [tied.old i x off hx] at hd
    simp only [Option.map_eq_some_iff] at hd
    obtain ⟨d0, h1, h2⟩ := hd
    exact ⟨d0, h1, h2.symm⟩
  -- solidity carries over
  have solid_up : ∀ i blk x off cb, c.h.get i = .live blk → c.σ[i]? = some (x, off) → h.get x = .live cb → ∀ d d0, d = (d0.1, d0.2.1 + off, d0.2.2) → blk.solid d → cb.solid d0 := by
    intro i blk x off cb hi hx hcb d d0 hd hs
    obtain ⟨x', off', cb', h1, h2, h3⟩ := liveb i blk hi
    rw [hx] at h1; injection h1 with h1; injection h1 with e1 e2; subst e1; subst e2
    rw [hcb] at h2; injection h2 with h2; subst h2
    subst hd
    rcases h3 with ⟨a1, a2, a3, _⟩ | ⟨a1, a2⟩
    · subst a3
      rcases hs with hs | hs
      · exact .inl (by simpa [renBlk, renCells_len] using hs)
      · exact .inr ⟨by simpa [renBlk] using hs.1, hs.2⟩
    · rcases hs with hs | hs
      · refine .inl ?_
        unfold roMatch at a2
        split at a2
        · rename_i l l' e1 e2
          rw [e1] at hs
          rw [e2]
          simp only [Cells.len] at *
          split at a2
          · have a2 : l' = l := a2
            subst a2; exact hs
          · have := congrArg List.length a2; simp at this; omega
        · rename_i l l' e1 e2
          rw [e1] at hs; rw [e2]; simp only [Cells.len] at *
          have h9 : ∀ (as : List AV) (vs : List Value), AV.plains? as = some vs → as.length = vs.length := by
            intro as
            induction as with
            | nil => intro vs hv; simp [AV.plains?] at hv; subst hv; rfl
            | cons y ys ih =>
              intro vs hv
              simp only [AV.plains?, Option.bind_eq_some_iff, Option.map_eq_some_iff] at hv
              obtain ⟨v, _, l2, h2, rfl⟩ := hv
              simp [ih l2 h2]
          have := h9 _ _ a2; simp at this; omega
        · rename_i l l' e1 e2
          rw [e1] at hs; rw [e2]; simp only [Cells.len] at *
          have := congrArg List.length a2; simp [renL_length] at this; omega
        · rename_i l l' e1 e2
          rw [e1] at hs; rw [e2]; simp only [Cells.len] at *
          have h9 : ∀ (as : List AV) (vs : List Value), AV.plains? as = some vs → as.length = vs.length := by
            intro as
            induction as with
            | nil => intro vs hv; simp [AV.plains?] at hv; subst hv; rfl
            | cons y ys ih =>
              intro vs hv
              simp only [AV.plains?, Option.bind_eq_some_iff, Option.map_eq_some_iff] at hv
              obtain ⟨v, _, l2, h2, rfl⟩ := hv
              simp [ih l2 h2]
          have := h9 _ _ a2; simp at this; omega
        · rename_i l l' e1 e2
          rw [e1] at hs; rw [e2]; simp only [Cells.len] at *
          split at a2
          · have a2 : l' = l := a2
            rw [a2]; exact hs
          · exact absurd (show False = True from a2) (by simp)
        · exact absurd (show False = True from a2) (by simp)
      · rw [a1] at hs; exact absurd hs.1 (by simp)
  have simg : Sim ρg c.h w := by
    refine ⟨fun i blk hi => ?_, fun i blk d hi hd => ?_, fun i blk d hi hd hs => ?_, fun i blk d hi hd hr hs => ?_, fun i j blk blk' d d' hi hj hij hd hd' hr hs hs' => ?_, fun i hi => ?_, hI.sim.baseLe, hI.sim.old, fun i blk d hi hd hr hs => ?_⟩
    · obtain ⟨x, off, cb, h1, h2, _⟩ := liveb i blk hi
      obtain ⟨d, hd⟩ := hI.sim.some_ x cb h2
      exact ⟨_, by rw [tied.old i x off h1, hd]; rfl⟩
    · obtain ⟨x, off, cb, h1, h2, h3⟩ := liveb i blk hi
      obtain ⟨d0, h4, rfl⟩ := ρg_of i x off h1 d hd
      have hca := hI.sim.cells x cb d0 h2 h4
      rcases h3 with ⟨a1, a2, a3, _⟩ | ⟨a1, a2⟩
      · subst a3; subst a2
        exact (CellsAt.ren tied w _ _ _ (okEnts_get okh (get_of i blk hi))).1 hca
      · simp only
        unfold roMatch at a2
        split at a2
        · rename_i l l' e1 e2
          rw [e2] at hca; rw [e1]
          intro k v hk
          have hkl : k < l.length := by
            rcases Nat.lt_or_ge k l.length with h' | h'
            · exact h'
            · simp [List.getElem?_eq_none h'] at hk
          split at a2
          · rename_i e0; have a2 : l' = l := a2; subst e0; subst a2; exact hca k v hk
          · have a2 : (l'.drop off).take l.length = l := a2
            have hk2 : l'[off + k]? = some v := by
              rw [← a2, List.getElem?_take, if_pos hkl, List.getElem?_drop] at hk; exact hk
            rw [Nat.add_assoc]; exact hca _ v hk2
        · rename_i l l' e1 e2
          rw [e2] at hca; rw [e1]
          intro k v hk
          have hkl : k < l.length := by
            rcases Nat.lt_or_ge k l.length with h' | h'
            · exact h'
            · simp [List.getElem?_eq_none h'] at hk
          obtain ⟨cs, h5, h6⟩ := CellsAt.list l' _ hca
          have h7 := plains_eq _ a2 ((h5.drop off).take l.length)
          have hk2 : cs[off + k]? = some v := by
            rw [← h7, List.getElem?_take, if_pos hkl, List.getElem?_drop] at hk; exact hk
          rw [Nat.add_assoc]; exact h6 _ v hk2
        · rename_i l l' e1 e2
          rw [e2] at hca; rw [e1]
          refine (CellsAt.ren tied w _ _ (.lit l) (by have := okEnts_get okh (get_of i blk hi); rw [e1] at this; exact this)).1 ?_
          simp only [renCells]
          intro k v hk
          have hkl : k < l.length := by
            rcases Nat.lt_or_ge k l.length with h' | h'
            · exact h'
            · have : (renL c.σ c.h.length new l)[k]? = none := List.getElem?_eq_none (by rw [renL_length]; exact h')
              rw [this] at hk; cases hk
          have a2 : (l'.drop off).take l.length = renL c.σ c.h.length new l := a2
          have hk2 : l'[off + k]? = some v := by
            rw [← a2, List.getElem?_take, if_pos hkl, List.getElem?_drop] at hk; exact hk
          rw [Nat.add_assoc]; exact hca _ v hk2
        · rename_i l l' e1 e2
          rw [e2] at hca; rw [e1]
          intro k v hk
          have hkl : k < l.length := by
            rcases Nat.lt_or_ge k l.length with h' | h'
            · exact h'
            · simp [List.getElem?_eq_none h'] at hk
          -- the concrete cells are plain
          obtain ⟨cv, h8, h9⟩ := (VRs_of_plain (ρ := ρg) _ a2).get k v hk
          refine ⟨cv, ?_, h9⟩
          rw [List.getElem?_take, if_pos hkl, List.getElem?_drop] at h8
          rw [Nat.add_assoc]; exact hca _ cv h8
        · rename_i l l' e1 e2
          rw [e2] at hca; rw [e1]
          split at a2
          · rename_i e0
            have a2 : l' = l := a2
            subst e0; subst a2
            exact hca
          · exact absurd (show False = True from a2) (by simp)
        · exact absurd (show False = True from a2) (by simp)
    · obtain ⟨x, off, cb, h1, h2, h3⟩ := liveb i blk hi
      obtain ⟨d0, h4, rfl⟩ := ρg_of i x off h1 d hd
      exact hI.sim.inside x cb d0 h2 h4 (solid_up i blk x off cb hi h1 h2 _ d0 rfl hs)
    · obtain ⟨x, off, cb, h1, h2, h3⟩ := liveb i blk hi
      obtain ⟨d0, h4, rfl⟩ := ρg_of i x off h1 d hd
      rcases h3 with ⟨a1, a2, a3, _⟩ | ⟨a1, a2⟩
      · obtain ⟨b1, cs, el, b2, b3, b4⟩ := hI.sim.own x cb d0 h2 h4 (by rw [a3]; exact hr) (solid_up i blk x off cb hi h1 h2 _ d0 rfl hs)
        subst a2; subst a3
        refine ⟨by simpa using b1, cs, el, b2, by simpa [renBlk, renCells_len] using b3, b4⟩
      · rw [a1] at hr; cases hr
    · obtain ⟨x, off, cb, h1, h2, h3⟩ := liveb i blk hi
      obtain ⟨x', off', cb', h1', h2', h3'⟩ := liveb j blk' hj
      obtain ⟨d0, h4, rfl⟩ := ρg_of i x off h1 d hd
      obtain ⟨d0', h4', rfl⟩ := ρg_of j x' off' h1' d' hd'
      have hne : x ≠ x' := by
        rcases Nat.lt_or_gt_of_ne hij with hlt | hgt
        · exact apartσ_spec _ _ hap i j x x' off off' blk blk' hlt h1 h1' (get_of i blk hi) (get_of j blk' hj) (.inl hr)
        · exact fun e => apartσ_spec _ _ hap j i x' x off' off blk' blk hgt h1' h1 (get_of j blk' hj) (get_of i blk hi) (.inr hr) e.symm
      have hr' : cb.rw = true := by
        rcases h3 with ⟨a1, a2, a3, _⟩ | ⟨a1, a2⟩
        · rw [a3]; exact a1
        · rw [a1] at hr; cases hr
      exact hI.sim.apart x x' cb cb' d0 d0' h2 h2' hne h4 h4' hr' (solid_up i blk x off cb hi h1 h2 _ d0 rfl hs) (solid_up j blk' x' off' cb' hj h1' h2' _ d0' rfl hs')
    · by_cases hi' : i < c.h.length
      · obtain ⟨x, off, h1, h2, _⟩ := foot i hi'
        exfalso
        rw [Heap.get, List.getD_eq_getElem?_getD, List.getElem?_eq_getElem hi'] at hi
        rw [List.getElem?_eq_getElem hi'] at h2
        simp at hi h2; exact h2 hi
      · have : c.σ[i]? = none := List.getElem?_eq_none (by omega)
        simp only [ρg, this]
    · obtain ⟨x, off, cb, h1, h2, h3⟩ := liveb i blk hi
      obtain ⟨d0, h4, rfl⟩ := ρg_of i x off h1 d hd
      have hr' : cb.rw = true := by
        rcases h3 with ⟨a1, a2, a3, _⟩ | ⟨a1, a2⟩
        · rw [a3]; exact a1
        · rw [a1] at hr; cases hr
      exact hI.sim.above x cb d0 h2 h4 hr' (solid_up i blk x off cb hi h1 h2 _ d0 rfl hs)
  -- the arguments
  have hfoC := hE fo (by simp [hop, Op.operands, Call.operands])
  rw [hfo] at hfoC
  simp only [VR] at hfoC
  obtain ⟨fs, cs, hCf, hfs, hcs⟩ := hfoC
  have hall : VRs ρ (first ++ as.toList.map E ++ cap) (fs ++ as.map a.eval ++ cs).toList := by
    simp only [Array.toList_append, Array.toList_map]
    exact (hfs.append (VRs.map _ fun x hx => hE x (by simp [hop, Op.operands, Call.operands]; exact .inr (by simpa using hx)))).append hcs
  have hargsC : VRs ρg c.args (fs ++ as.map a.eval ++ cs).toList := by
    refine (VRs.ren tied _ _ okargs).1 ?_
    rw [← hargs]
    exact VRs.adapt _ _ hall
  have hinv := c.pf ρg w _ simg hargsC
  -- what the callee leaves, in the caller's heap
  have finish : ∀ w' ρg' cv, VR ρg' c.v cv → Inv ⟨c.h.length, ρg, c.h, w⟩ ρg' c.h' w' →
      ∃ ρ', ρ.le ρ' ∧ VR ρ' (renA c.σ c.h.length new c.v) cv ∧ Inv Γ ρ' (h.upds (fb.2 ++ nb)) w' := by
    intro w' ρg' cv hv hJ
    let win : Nat → Prop := fun x => new ≤ x ∧ x < new + (c.h'.length - c.h.length)
    let ρ' : Ren := ⟨fun x => if new ≤ x ∧ x < new + (c.h'.length - c.h.length) then ρg' (c.h.length + (x - new)) else ρ x, ρ.base⟩
    have ρ'_old : ∀ x, ¬ win x → ρ' x = ρ x := fun x hx => by simp only [ρ']; rw [if_neg hx]
    have ρ'_new : ∀ k, k < c.h'.length - c.h.length → ρ' (new + k) = ρg' (c.h.length + k) := fun k hk => by simp only [ρ']; rw [if_pos (by omega)]; congr 1; omega
    have notfree : ∀ x d, ρ x = some d → ¬ win x := fun x d hx hw => by
      rw [hI.sim.dom x (hfree x hw.1 hw.2)] at hx; cases hx
    have hle : ρ.le ρ' := ⟨fun x d hx => by rw [ρ'_old x (notfree x d hx)]; exact hx, rfl⟩
    have gagree : ∀ i, i < c.h.length → ρg' i = ρg i := fun i hi => hJ.agree i hi
    have tied' : Tied c.σ c.h.length new c.h'.length ρ' ρg' := by
      refine ⟨hlen, hJ.sameBase, fun b x off hb => ?_, fun b hb hbm => ?_⟩
      · have hbl : b < c.h.length := by
          rcases Nat.lt_or_ge b c.σ.length with h' | h'
          · omega
          · simp [List.getElem?_eq_none h'] at hb
        rw [gagree b hbl, tied.old b x off hb]
        have hx : x < new := by
          have := (List.all_eq_true.1 hσlt) (x, off) (List.mem_of_getElem? hb)
          simpa using this
        rw [ρ'_old x (fun hw => by have := hw.1; omega)]
      · rw [ρ'_new _ (by omega)]; congr 1; omega
    -- the callee's blocks behind the call
    have gnot : ∀ i blk', c.h'.get i = .live blk' → i < c.h'.length := fun i blk' hi => by
      rcases Nat.lt_or_ge i c.h'.length with h' | h'
      · exact h'
      · simp [Heap.get, List.getD_eq_getElem?_getD, List.getElem?_eq_none h'] at hi
    have get_of' : ∀ i blk', c.h'[i]? = some (.live blk') → c.h'.get i = .live blk' := fun i blk' hi => by
      simp [Heap.get, List.getD_eq_getElem?_getD, hi]
    have get_h' : ∀ i blk', c.h'.get i = .live blk' → c.h'[i]? = some (.live blk') := fun i blk' hi => by
      have := gnot i blk' hi
      rw [Heap.get, List.getD_eq_getElem?_getD, List.getElem?_eq_getElem this] at hi
      rw [List.getElem?_eq_getElem this]; simpa using hi
    -- every live block of the new heap: from the callee's footprint or new ones (number j there), or untouched
    have cases_ : ∀ x blk2, (h.upds (fb.2 ++ nb)).get x = .live blk2 →
        (∃ j blk', c.h'.get j = .live blk' ∧ blk2 = renBlk c.σ c.h.length new blk' ∧ blk'.rw = true ∧ (∀ d, ρg' j = some d → ρ' x = some d) ∧ (ρ' x = ρg' j) ∧
          ((j < c.h.length ∧ ∃ blk, c.h.get j = .live blk ∧ blk.rw = true ∧ c.σ[j]? = some (x, 0)) ∨ (c.h.length ≤ j ∧ x = new + (j - c.h.length)))) ∨
        (h.get x = .live blk2 ∧ ¬ win x ∧ ∀ j blk, c.h.get j = .live blk → blk.rw = true → ∀ off, c.σ[j]? ≠ some (x, off)) := by
      intro x blk2 hx
      rcases get_upds (fb.2 ++ nb) h x with ⟨e, he, hg⟩ | ⟨hno, hg⟩
      · rw [hg] at hx; subst hx
        rcases List.mem_append.1 he with he | he
        · obtain ⟨j, off, blk, h1, h2, h3, h4⟩ := footw x _ he
          rcases h4 with ⟨blk', h5, h6, h7⟩ | h4
          · injection h7 with h7; subst h7
            have hj : c.h.get j = .live blk := by simp [Heap.get, List.getD_eq_getElem?_getD, h2]
            obtain ⟨x', off', cb, g1, g2, g3⟩ := liveb j blk hj
            rw [h1] at g1; injection g1 with g1; injection g1 with e1 e2; subst e1; subst e2
            have hoff : off = 0 := by
              rcases g3 with ⟨_, a2, _⟩ | ⟨a1, _⟩
              · exact a2
              · rw [a1] at h3; cases h3
            subst hoff
            have hjl := lt_of j blk hj
            have hρ'x : ρ' x = ρg' j := by
              have := tied'.old j x 0 h1
              rw [this]
              cases ρ' x with
              | none => rfl
              | some d => simp
            exact .inl ⟨j, blk', get_of' j blk' h5, rfl, h6, fun d hd => by rw [hρ'x]; exact hd, hρ'x, .inl ⟨hjl, blk, hj, h3, h1⟩⟩
          · cases h4
        · obtain ⟨i, hi, hxi, h5⟩ := new3 x _ he
          rcases h5 with ⟨blk', h6, h7⟩ | ⟨_, h7⟩
          · injection h7 with h7; subst h7
            rw [List.getElem?_drop] at h6
            have hx2 : x = new + (c.h.length + i - c.h.length) := by omega
            have hi' : i < c.h'.length - c.h.length := by simpa using hi
            have hρ'x : ρ' x = ρg' (c.h.length + i) := by rw [hxi, Nat.zero_add, ρ'_new i hi']
            exact .inl ⟨c.h.length + i, blk', get_of' _ _ h6, rfl, new1 i blk' (by rw [List.getElem?_drop]; exact h6), fun d hd => by rw [hρ'x]; exact hd, hρ'x, .inr ⟨by omega, hx2⟩⟩
          · cases h7
      · rw [hg] at hx
        refine .inr ⟨hx, ?_, ?_⟩
        · intro hw
          rw [hfree x hw.1 hw.2] at hx; cases hx
        · intro j blk hj hrw off hσ
          obtain ⟨x', off', cb, g1, g2, g3⟩ := liveb j blk hj
          rw [hσ] at g1; injection g1 with g1; injection g1 with e1 e2; subst e1; subst e2
          rcases g3 with ⟨_, _, _, ⟨blk', _, _, hm⟩ | ⟨_, hm⟩⟩ | ⟨a1, _⟩
          · exact hno _ (List.mem_append.2 (.inl hm))
          · exact hno _ (List.mem_append.2 (.inl hm))
          · rw [a1] at hrw; cases hrw
    -- a block that the callee owns is one of the caller's, written, and solid
    have owned_up : ∀ i, Ctx.owned ⟨c.h.length, ρg, c.h, w⟩ i → ∃ j blk x cb d, c.h.get j = .live blk ∧ blk.rw = true ∧ c.σ[j]? = some (x, 0) ∧ h.get x = .live cb ∧ cb.rw = true ∧ ρ x = some d ∧ cb.solid d ∧ d.1 = i := by
      rintro i ⟨j, blk, d, hj, hl, hrw, hd, hs, rfl⟩
      obtain ⟨x, off, cb, h1, h2, h3⟩ := liveb j blk hl
      obtain ⟨d0, h4, h5⟩ := ρg_of j x off h1 d hd
      rcases h3 with ⟨a1, a2, a3, _⟩ | ⟨a1, _⟩
      · subst a2
        refine ⟨j, blk, x, cb, d0, hl, hrw, h1, h2, by rw [a3]; exact hrw, h4, solid_up j blk x 0 cb hl h1 h2 d d0 h5 hs, by rw [h5]⟩
      · rw [a1] at hrw; cases hrw
    -- what was not touched stands
    have keepb : ∀ x cb d, h.get x = .live cb → ¬ win x → (∀ j blk, c.h.get j = .live blk → blk.rw = true → ∀ off, c.σ[j]? ≠ some (x, off)) → ρ x = some d → cb.solid d → ¬ Ctx.owned ⟨c.h.length, ρg, c.h, w⟩ d.1 ∧ w'.heap[d.1]? = w.heap[d.1]? := by
      intro x cb d hx hxn hno hd hs
      have hnot : ¬ Ctx.owned ⟨c.h.length, ρg, c.h, w⟩ d.1 := by
        intro hown
        obtain ⟨j, blk, y, yb, dy, h1, h2, h3, h4, h5, h6, h7, h8⟩ := owned_up _ hown
        have hxy : y ≠ x := fun e => hno j blk h1 h2 0 (e ▸ h3)
        exact hI.sim.apart y x yb cb dy d h4 hx hxy h6 hd h5 h7 hs h8
      exact ⟨hnot, hJ.keep _ (hI.sim.inside x cb d hx hd hs) hnot⟩
    have soldn : ∀ blk' d, (renBlk c.σ c.h.length new blk').solid d → blk'.solid d := fun blk' d hs => by
      rcases hs with hs | hs
      · exact .inl (by simpa [renBlk, renCells_len] using hs)
      · exact .inr hs
    have hw := hJ.size
    simp only at hw
    have hJb : ρg'.base = ρ.base := hJ.sameBase
    refine ⟨ρ', hle, (VR.ren tied' _ _ okv).2 hv, ⟨⟨?_, ?_, ?_, ?_, ?_, ?_, ?_, ?_, ?_⟩, ?_, hI.sameBase, hJ.os.trans hI.os, hJ.tape.trans hI.tape, hJ.output.trans hI.output, ?_, ?_, ?_⟩⟩
    · intro x blk2 hx
      rcases cases_ x blk2 hx with ⟨j, blk', h1, h2, h3, h4, h5, _⟩ | ⟨h1, h2, _⟩
      · obtain ⟨d, hd⟩ := hJ.sim.some_ j blk' h1
        exact ⟨d, h4 d hd⟩
      · rw [ρ'_old x h2]; exact hI.sim.some_ x blk2 h1
    · intro x blk2 d hx hd
      rcases cases_ x blk2 hx with ⟨j, blk', h1, h2, h3, h4, h5, _⟩ | ⟨h1, h2, h3⟩
      · subst h2
        rw [h5] at hd
        exact (CellsAt.ren tied' w' _ _ _ (okEnts_get okh' (get_h' j blk' h1))).2 (hJ.sim.cells j blk' d h1 hd)
      · rw [ρ'_old x h2] at hd
        refine ((hI.sim.cells x blk2 d h1 hd).of_cell fun hpos o => ?_).mono hle
        exact cell_of_heap (keepb x blk2 d h1 h2 h3 hd (.inl hpos)).2 o
    · intro x blk2 d hx hd hs
      rcases cases_ x blk2 hx with ⟨j, blk', h1, h2, h3, h4, h5, _⟩ | ⟨h1, h2, h3⟩
      · subst h2
        rw [h5] at hd
        exact hJ.sim.inside j blk' d h1 hd (soldn _ _ hs)
      · rw [ρ'_old x h2] at hd
        have := hI.sim.inside x blk2 d h1 hd hs
        omega
    · intro x blk2 d hx hd hr hs
      rcases cases_ x blk2 hx with ⟨j, blk', h1, h2, h3, h4, h5, _⟩ | ⟨h1, h2, h3⟩
      · subst h2
        rw [h5] at hd
        obtain ⟨b1, cs', el, b2, b3, b4⟩ := hJ.sim.own j blk' d h1 hd h3 (soldn _ _ hs)
        exact ⟨b1, cs', el, b2, by simpa [renBlk, renCells_len] using b3, b4⟩
      · rw [ρ'_old x h2] at hd
        obtain ⟨b1, cs', el, b2, b3⟩ := hI.sim.own x blk2 d h1 hd hr hs
        exact ⟨b1, cs', el, by rw [(keepb x blk2 d h1 h2 h3 hd hs).2]; exact b2, b3⟩
    · intro x y xb yb d d' hx hy hne hd hd' hr hs hs'
      -- a callee's block against an untouched one
      have cross : ∀ j blk' d z zb dz, c.h'.get j = .live blk' → blk'.rw = true → ρg' j = some d → blk'.solid d → h.get z = .live zb → ¬ win z → (∀ j blk, c.h.get j = .live blk → blk.rw = true → ∀ off, c.σ[j]? ≠ some (z, off)) → ρ z = some dz → zb.solid dz → d.1 ≠ dz.1 := by
        intro j blk' d z zb dz hj hrw hd hs hz hzn hno hdz hsz e
        have hin := hI.sim.inside z zb dz hz hdz hsz
        rcases hJ.fresh j blk' d hj hd hrw hs with hf | hf
        · simp only at hf; omega
        · rw [e] at hf; exact (keepb z zb dz hz hzn hno hdz hsz).1 hf
      rcases cases_ x xb hx with ⟨j, blk', h1, h2, h3, h4, h5, h6⟩ | ⟨h1, h2, h3⟩
      · subst h2
        rw [h5] at hd
        rcases cases_ y yb hy with ⟨j', blk'', k1, k2, k3, k4, k5, k6⟩ | ⟨k1, k2, k3⟩
        · subst k2
          rw [k5] at hd'
          have hjj : j ≠ j' := by
            rintro rfl
            rcases h6 with ⟨_, _, _, _, h6⟩ | ⟨h6, h7⟩
            · rcases k6 with ⟨_, _, _, _, k6⟩ | ⟨k6, k7⟩
              · rw [h6] at k6; injection k6 with k6; injection k6 with e1; exact hne e1
              · omega
            · rcases k6 with ⟨k6, _⟩ | ⟨k6, k7⟩
              · omega
              · exact hne (h7.trans k7.symm)
          exact hJ.sim.apart j j' blk' blk'' d d' h1 k1 hjj hd hd' h3 (soldn _ _ hs) (soldn _ _ hs')
        · rw [ρ'_old y k2] at hd'
          exact cross j blk' d y yb d' h1 h3 hd (soldn _ _ hs) k1 k2 k3 hd' hs'
      · rw [ρ'_old x h2] at hd
        rcases cases_ y yb hy with ⟨j', blk'', k1, k2, k3, k4, k5, k6⟩ | ⟨k1, k2, k3⟩
        · subst k2
          rw [k5] at hd'
          exact fun e => cross j' blk'' d' x xb d k1 k3 hd' (soldn _ _ hs') h1 h2 h3 hd hs e.symm
        · rw [ρ'_old y k2] at hd'
          exact hI.sim.apart x y xb yb d d' h1 k1 hne hd hd' hr hs hs'
    · intro x hx
      rcases get_upds (fb.2 ++ nb) h x with ⟨e, he, hg⟩ | ⟨hno, hg⟩
      · exfalso
        rw [hg] at hx; subst hx
        rcases List.mem_append.1 he with he | he
        · obtain ⟨j, off, blk, _, _, _, h4⟩ := footw x _ he
          rcases h4 with ⟨_, _, _, h7⟩ | h4
          · cases h7
          · cases h4
        · obtain ⟨i, _, _, h5⟩ := new3 x _ he
          rcases h5 with ⟨_, _, h7⟩ | ⟨_, h7⟩ <;> cases h7
      · rw [hg] at hx
        by_cases hxn : win x
        · have e1 : x = new + (x - new) := by have := hxn.1; omega
          obtain ⟨e, he⟩ := new2 (x - new) (by have := hxn.1; have := hxn.2; simp; omega)
          exfalso
          exact hno e (List.mem_append.2 (.inr (by rw [Nat.zero_add, ← e1] at he; exact he)))
        · rw [ρ'_old x hxn]; exact hI.sim.dom x hx
    · show ρ.base.heap.size ≤ _
      have := hI.sim.baseLe; omega
    · intro i hi
      have := hJ.sim.old i (by rw [hJb]; exact hi)
      rw [this, hJb]
    · intro x blk2 d hx hd hr hs
      show ρ.base.heap.size ≤ _
      rcases cases_ x blk2 hx with ⟨j, blk', h1, h2, h3, h4, h5, h6⟩ | ⟨h1, h2, h3⟩
      · subst h2
        rw [h5] at hd
        have := hJ.sim.above j blk' d h1 hd h3 (soldn _ _ hs)
        rw [hJb] at this; exact this
      · rw [ρ'_old x h2] at hd
        exact hI.sim.above x blk2 d h1 hd hr hs
    · intro b hb
      rw [ρ'_old b (fun hw => by have := hw.1; omega)]; exact hI.agree b hb
    · have := hI.size; omega
    · intro i hi hno
      rw [hJ.keep i (by simp only; have := hI.size; omega) ?_]
      · exact hI.keep i hi hno
      · intro hown
        obtain ⟨j, blk, y, yb, dy, h1, h2, h3, h4, h5, h6, h7, h8⟩ := owned_up _ hown
        subst h8
        rcases hI.fresh y yb dy h4 h6 h5 h7 with hf | hf
        · omega
        · exact hno hf
    · intro x blk2 d hx hd hr hs
      rcases cases_ x blk2 hx with ⟨j, blk', h1, h2, h3, h4, h5, h6⟩ | ⟨h1, h2, h3⟩
      · subst h2
        rw [h5] at hd
        rcases hJ.fresh j blk' d h1 hd h3 (soldn _ _ hs) with hf | hf
        · simp only at hf; have := hI.size; exact .inl (by omega)
        · obtain ⟨j, blk, y, yb, dy, h1, h2, h3, h4, h5, h6, h7, h8⟩ := owned_up _ hf
          rw [← h8]; exact hI.fresh y yb dy h4 h6 h5 h7
      · rw [ρ'_old x h2] at hd
        exact hI.fresh x blk2 d h1 hd hr hs
  -- the machine
  intro K Qc hK
  unfold Oper.wp
  rw [run_callOp hop hCf]
  unfold Invokes at hinv
  generalize hrun : (callFunc c.f (fs ++ as.map a.eval ++ cs)).run P w = r at hinv
  cases r with
  | halt x w' => exact hinv.elim
  | ok nx w' =>
    cases nx with
    | enter g gs =>
      simp only at hinv
      show Calls P g gs w' _
      refine hinv.mono fun e w'' hR => ?_
      obtain ⟨ρg', cv, rfl, hv, hJ⟩ := hR
      obtain ⟨ρ', h1, h2, h3⟩ := finish w'' ρg' cv hv hJ
      exact hK ρ' w'' cv h1 h2 h3
    | value v =>
      simp only at hinv
      obtain ⟨ρg', cv, hv0, hv, hJ⟩ := hinv
      injection hv0 with hv0; subst hv0
      obtain ⟨ρ', h1, h2, h3⟩ := finish w' ρg' v hv hJ
      exact hK ρ' w' v h1 h2 h3
    | _ => exact hinv.elim

end Go.Ab
