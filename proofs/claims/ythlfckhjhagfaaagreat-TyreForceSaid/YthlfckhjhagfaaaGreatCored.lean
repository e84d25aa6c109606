/- An engine that names no program: what code does to what memory shows, evaluated over abstract values and an abstract heap, and that it is so. -/
import Derived.Test.YthlfckhjhagfaaaGreatCorec
import Derived.LoopNIn
import Derived.Scope
import Derived.RangeFuncLeaves
import Derived.RangeFuncRecord
set_option linter.unusedVariables false
set_option linter.unusedSimpArgs false
namespace Go.Ab
def distinct : List Nat → Bool
  | [] => true
  | x :: l => !l.contains x && distinct l
def blockObs (σ : List (Nat × Nat)) (n : Nat) (h : Heap) : List (Nat × Nat) → List Ent → Option (List Ob)
  | [], [] => some []
  | (x, _) :: s, e :: es => match e with
    | .free => none
    | .dead => blockObs σ n h s es
    | .live b => (blockObs σ n h s es).map fun l => Ob.ent (h.get x) (.live (renBlk σ n 0 b)) :: l
  | _, _ => none
def startsSame : Nat → Nat → List Nat → Bool
  | 0, _, _ => true
  | n + 1, i, x :: l => decide (x = i) && startsSame n (i + 1) l
  | _ + 1, _, [] => false
def weakObs (n0 : Nat) (σ : List Nat) (t t2 : List AV) (h h2 : Heap) : Option (List Ob) :=
  let σ' := σ.map fun x => (x, 0)
  let n := h2.length
  if σ.length = n ∧ n0 ≤ n ∧ startsSame n0 0 σ = true ∧ distinct σ = true ∧ (okL n t2 && okEnts n h2) = true then
    (blockObs σ' n h σ' h2).map fun l => Ob.avs (adapts (renL σ' n 0 t2) t) (renL σ' n 0 t2) :: l
  else none
theorem startsSame_spec : ∀ (n i : Nat) (l : List Nat), startsSame n i l = true → ∀ k, k < n → l[k]? = some (i + k)
  | 0, _, _, _, k, hk => by omega
  | n + 1, i, x :: l, h, k, hk => by
    simp only [startsSame, Bool.and_eq_true, decide_eq_true_eq] at h
    cases k with
    | zero => simp [h.1]
    | succ k => simpa [Nat.add_assoc, Nat.add_comm 1 k] using startsSame_spec n (i + 1) l h.2 k (by omega)
  | n + 1, _, [], h, _, _ => by simp [startsSame] at h
theorem distinct_spec : ∀ (l : List Nat), distinct l = true → ∀ (i j x y : Nat), i < j → l[i]? = some x → l[j]? = some y → x ≠ y
  | [], _, i, j, x, y, _, h, _ => by simp at h
  | a :: l, h, i, j, x, y, hij, hi, hj => by
    simp only [distinct, Bool.and_eq_true, Bool.not_eq_true'] at h
    cases j with
    | zero => omega
    | succ j =>
      cases i with
      | zero =>
        simp at hi hj; subst hi
        intro e; subst e
        have := List.mem_of_getElem? hj
        simp [this] at h
      | succ i => exact distinct_spec l h.2 i j x y (by omega) (by simpa using hi) (by simpa using hj)
theorem blockObs_spec {σ : List (Nat × Nat)} {n : Nat} {h : Heap} : ∀ (s : List (Nat × Nat)) (es : List Ent) (r : List Ob), blockObs σ n h s es = some r →
    (∀ i, i < es.length → es[i]? ≠ some .free) ∧ ∀ (i : Nat) (b : Blk) (x o : Nat), es[i]? = some (.live b) → s[i]? = some (x, o) → Ob.ent (h.get x) (.live (renBlk σ n 0 b)) ∈ r
  | [], [], r, hr => by simp [blockObs] at hr; subst hr; exact ⟨fun i hi => by simp at hi, fun i b x o hi => by simp at hi⟩
  | (x0, o0) :: s, e :: es, r, hr => by
    cases e with
    | free => simp [blockObs] at hr
    | dead =>
      simp only [blockObs] at hr
      obtain ⟨h1, h2⟩ := blockObs_spec s es r hr
      refine ⟨fun i hi => ?_, fun i b x o hi hs => ?_⟩
      · cases i with
        | zero => simp
        | succ i => simpa using h1 i (by simpa using hi)
      · cases i with
        | zero => simp at hi
        | succ i => exact h2 i b x o (by simpa using hi) (by simpa using hs)
    | live b0 =>
      simp only [blockObs, Option.map_eq_some_iff] at hr
      obtain ⟨l, hl, rfl⟩ := hr
      obtain ⟨h1, h2⟩ := blockObs_spec s es l hl
      refine ⟨fun i hi => ?_, fun i b x o hi hs => ?_⟩
      · cases i with
        | zero => simp
        | succ i => simpa using h1 i (by simpa using hi)
      · cases i with
        | zero =>
          simp at hi hs
          obtain ⟨rfl, rfl⟩ := hs
          subst hi
          exact List.mem_cons_self ..
        | succ i => exact List.mem_cons_of_mem _ (h2 i b x o (by simpa using hi) (by simpa using hs))
  | [], _ :: _, r, hr => by simp [blockObs] at hr
  | _ :: _, [], r, hr => by simp [blockObs] at hr
theorem weak_ok {n0 : Nat} {σ : List Nat} {t t2 : List AV} {h h2 : Heap} {l : List Ob} (hw : weakObs n0 σ t t2 h h2 = some l) (hob : ∀ p ∈ l, p.holds) {Γ : Ctx} (hn : Γ.n0 = n0) {ρ : Ren} {w : World} {cs : List Value} (hI : Inv Γ ρ h w) (hV : VRs ρ t cs) :
    n0 ≤ h2.length ∧ ∃ ρ2, Inv Γ ρ2 h2 w ∧ VRs ρ2 t2 cs := by
  unfold weakObs at hw
  simp only at hw
  split at hw
  case isFalse => cases hw
  rename_i hcond
  obtain ⟨hlen, hn0, hsame, hdis, hok⟩ := hcond
  simp only [Bool.and_eq_true] at hok
  simp only [Option.map_eq_some_iff] at hw
  obtain ⟨l0, hl0, rfl⟩ := hw
  simp only [List.mem_cons, forall_eq_or_imp] at hob
  obtain ⟨hslots, hblocks⟩ := hob
  obtain ⟨hnf, hbl⟩ := blockObs_spec _ _ _ hl0
  refine ⟨hn0, ?_⟩
  let σ' := σ.map fun x => (x, 0)
  let ρ2 : Ren := ⟨fun i => match σ[i]? with
    | some x => ρ x
    | none => none, ρ.base⟩
  have tied : Tied σ' h2.length 0 h2.length ρ ρ2 := by
    refine ⟨by simp [σ', hlen], rfl, fun b x off hb => ?_, fun b h1 h2 => by omega⟩
    simp only [σ', List.getElem?_map, Option.map_eq_some_iff] at hb
    obtain ⟨y, hy, he⟩ := hb
    injection he with e1 e2; subst e1; subst e2
    simp only [ρ2, hy]
    cases ρ y with
    | none => rfl
    | some d => simp
  have get_of : ∀ i blk, h2.get i = .live blk → h2[i]? = some (.live blk) ∧ i < h2.length := fun i blk hi => by
    rcases Nat.lt_or_ge i h2.length with h' | h'
    · rw [Heap.get, List.getD_eq_getElem?_getD, List.getElem?_eq_getElem h'] at hi
      exact ⟨by rw [List.getElem?_eq_getElem h']; simpa using hi, h'⟩
    · simp [Heap.get, List.getD_eq_getElem?_getD, List.getElem?_eq_none h'] at hi
  have live_of : ∀ i blk, h2.get i = .live blk → ∃ x, σ[i]? = some x ∧ h.get x = .live (renBlk σ' h2.length 0 blk) ∧ ρ2 i = ρ x := by
    intro i blk hi
    obtain ⟨h1, h3⟩ := get_of i blk hi
    have h4 : i < σ.length := by omega
    refine ⟨σ[i], List.getElem?_eq_getElem h4, hblocks _ (hbl i blk σ[i] 0 h1 (by simp [h4])), ?_⟩
    simp only [ρ2, List.getElem?_eq_getElem h4]
  have sold : ∀ blk d, blk.solid d → (renBlk σ' h2.length 0 blk).solid d := fun blk d hs => by
    rcases hs with hs | hs
    · exact .inl (by simpa [renBlk, renCells_len] using hs)
    · exact .inr hs
  refine ⟨ρ2, ⟨⟨?_, ?_, ?_, ?_, ?_, ?_, hI.sim.baseLe, hI.sim.old, ?_⟩, ?_, hI.sameBase, hI.os, hI.tape, hI.output, hI.size, hI.keep, ?_⟩, ?_⟩
  · intro i blk hi
    obtain ⟨x, h1, h3, h4⟩ := live_of i blk hi
    rw [h4]; exact hI.sim.some_ x _ h3
  · intro i blk d hi hd
    obtain ⟨x, h1, h3, h4⟩ := live_of i blk hi
    rw [h4] at hd
    exact (CellsAt.ren tied w _ _ _ (okEnts_get hok.2 (get_of i blk hi).1)).1 (hI.sim.cells x _ d h3 hd)
  · intro i blk d hi hd hs
    obtain ⟨x, h1, h3, h4⟩ := live_of i blk hi
    rw [h4] at hd
    exact hI.sim.inside x _ d h3 hd (sold _ _ hs)
  · intro i blk d hi hd hr hs
    obtain ⟨x, h1, h3, h4⟩ := live_of i blk hi
    rw [h4] at hd
    obtain ⟨b1, cs', el, b2, b3, b4⟩ := hI.sim.own x _ d h3 hd hr (sold _ _ hs)
    exact ⟨b1, cs', el, b2, by simpa [renBlk, renCells_len] using b3, b4⟩
  · intro i j blk blk' d d' hi hj hij hd hd' hr hs hs'
    obtain ⟨x, h1, h3, h4⟩ := live_of i blk hi
    obtain ⟨y, k1, k3, k4⟩ := live_of j blk' hj
    rw [h4] at hd; rw [k4] at hd'
    have hne : x ≠ y := by
      rcases Nat.lt_or_gt_of_ne hij with hlt | hgt
      · exact distinct_spec σ hdis i j x y hlt h1 k1
      · exact fun e => distinct_spec σ hdis j i y x hgt k1 h1 e.symm
    exact hI.sim.apart x y _ _ d d' h3 k3 hne hd hd' hr (sold _ _ hs) (sold _ _ hs')
  · intro i hi
    by_cases hl : i < h2.length
    · exfalso
      rw [Heap.get, List.getD_eq_getElem?_getD, List.getElem?_eq_getElem hl] at hi
      exact hnf i hl (by rw [List.getElem?_eq_getElem hl]; simpa using hi)
    · simp only [ρ2, List.getElem?_eq_none (show σ.length ≤ i by omega)]
  · intro i blk d hi hd hr hs
    obtain ⟨x, h1, h3, h4⟩ := live_of i blk hi
    rw [h4] at hd
    exact hI.sim.above x _ d h3 hd hr (sold _ _ hs)
  · intro b hb
    have := startsSame_spec n0 0 σ hsame b (by omega)
    simp only [ρ2, this, Nat.zero_add]
    exact hI.agree b hb
  · intro i blk d hi hd hr hs
    obtain ⟨x, h1, h3, h4⟩ := live_of i blk hi
    rw [h4] at hd
    exact hI.fresh x _ d h3 hd hr (sold _ _ hs)
  · refine (VRs.ren tied _ _ hok.1).1 ?_
    rw [← show adapts (renL σ' h2.length 0 t2) t = renL σ' h2.length 0 t2 from hslots]
    exact VRs.adapt _ _ hV
def MarksL (Γ : Ctx) : List Deferred → World → Prop
  | [], _ => True
  | d :: ds, w => (∃ D, d = { target := .collected D, args := #[] } ∧ (Γ.w0.heap.size ≤ D ∧ Γ.ρ0.base.heap.size ≤ D) ∧ w.heap[D]? = some (.deferred (some [])) ∧ ∀ d' ∈ ds, d' ≠ d) ∧ MarksL Γ ds w
def Quiet (w w' : World) : Prop := ∀ (k : Nat) (o : Obj), w.heap[k]? = some o → (∀ cs e q, o ≠ .cells cs e q) → w'.heap[k]? = some o
theorem MarksL.mono {Γ : Ctx} {w w' : World} (hq : Quiet w w') : ∀ (ds : List Deferred), MarksL Γ ds w → MarksL Γ ds w'
  | [], _ => trivial
  | d :: ds, h => by
    obtain ⟨⟨D, h1, h2, h3, h4⟩, h5⟩ := h
    exact ⟨⟨D, h1, h2, hq D _ h3 (by simp), h4⟩, MarksL.mono hq ds h5⟩
def FrOK (fr : Option Nat) (w : World) : Prop := ∀ l, fr = some l → ∃ r, w.heap[l]? = some (.loop r)
def Marks (Γ : Ctx) (fr : Option Nat) (ds : List Deferred) (w : World) : Prop := FrOK fr w ∧ (∀ l, fr = some l → ds = []) ∧ MarksL Γ ds w
theorem Marks.mono {Γ : Ctx} {fr : Option Nat} {w w' : World} (hq : Quiet w w') {ds : List Deferred} (h : Marks Γ fr ds w) : Marks Γ fr ds w' :=
  ⟨fun l hl => by obtain ⟨r, hr⟩ := h.1 l hl; exact ⟨r, hq l _ hr (by simp)⟩, h.2.1, MarksL.mono hq _ h.2.2⟩
theorem Inv.here {Γ : Ctx} {ρ : Ren} {h : Heap} {w : World} (hI : Inv Γ ρ h w) : Inv ⟨h.length, ρ, h, w⟩ ρ h w := by
  refine ⟨hI.sim, fun _ _ => rfl, rfl, rfl, rfl, rfl, Nat.le_refl _, fun _ _ _ => rfl, fun b blk d hb hd hrw hs => ?_⟩
  refine .inr ⟨b, blk, d, ?_, hb, hrw, hd, hs, rfl⟩
  rcases Nat.lt_or_ge b h.length with h' | h'
  · exact h'
  · simp [Heap.get, List.getD_eq_getElem?_getD, List.getElem?_eq_none h'] at hb
theorem Inv.owned_up {Γ : Ctx} {ρ : Ren} {h : Heap} {w : World} (hI : Inv Γ ρ h w) {i : Nat} (ho : Ctx.owned ⟨h.length, ρ, h, w⟩ i) : Γ.w0.heap.size ≤ i ∨ Γ.owned i := by
  obtain ⟨b, blk, c, h1, h2, h3, h4, h5, h6⟩ := ho
  rw [← h6]; exact hI.fresh b blk c h2 h4 h3 h5
theorem Inv.trans {Γ : Ctx} {ρ ρ2 : Ren} {h h2 : Heap} {w w2 : World} (hI : Inv Γ ρ h w) (hn : Γ.n0 ≤ h.length) (hJ : Inv ⟨h.length, ρ, h, w⟩ ρ2 h2 w2) : Inv Γ ρ2 h2 w2 := by
  refine ⟨hJ.sim, fun b hb => (hJ.agree b (Nat.lt_of_lt_of_le hb hn)).trans (hI.agree b hb), hJ.sameBase.trans hI.sameBase, hJ.os.trans hI.os, hJ.tape.trans hI.tape, hJ.output.trans hI.output, Nat.le_trans hI.size hJ.size, fun i hi hno => ?_, fun b blk c hb hc hr hs => ?_⟩
  · rw [hJ.keep i (Nat.lt_of_lt_of_le hi hI.size) fun ho => ?_]
    · exact hI.keep i hi hno
    · rcases hI.owned_up ho with h1 | h1
      · omega
      · exact hno h1
  · rcases hJ.fresh b blk c hb hc hr hs with h1 | h1
    · exact .inl (Nat.le_trans hI.size h1)
    · exact hI.owned_up h1
theorem Sim.not_owned {ρ : Ren} {h : Heap} {w : World} (hS : Sim ρ h w) {n : Nat} {k : Nat} {o : Obj} (hk : w.heap[k]? = some o) (ho : ∀ cs e q, o ≠ .cells cs e q) : ¬ Ctx.owned ⟨n, ρ, h, w⟩ k := by
  rintro ⟨b, blk, c, h1, h2, h3, h4, h5, h6⟩
  obtain ⟨_, cs, e, h8, _⟩ := hS.own b blk c h2 h4 h3 h5
  rw [h6, hk] at h8
  injection h8 with h8
  exact ho _ _ _ h8
theorem Inv.quiet {n : Nat} {ρ ρ2 : Ren} {h h2 : Heap} {w w2 : World} (hS : Sim ρ h w) (hJ : Inv ⟨n, ρ, h, w⟩ ρ2 h2 w2) : Quiet w w2 := fun k o hk ho => by
  have hlt : k < w.heap.size := (Array.getElem?_eq_some_iff.1 hk).1
  rw [hJ.keep k hlt (hS.not_owned hk ho)]; exact hk
def PostIs (Γ : Ctx) (fr : Option Nat) (e : Exit) (t : List AV) (h : Heap) : Exit → Act → World → Prop :=
  fun e2 a2 w2 => e2 = e ∧ ∃ ρ2, Inv Γ ρ2 h w2 ∧ VRs ρ2 t a2.tmps.toList ∧ Marks Γ fr a2.defers w2
def Runs (P : Program) (Y : Ctx → Prop) (n0 : Nat) (c : Code) (t : List AV) (h : Heap) (e : Exit) (t' : List AV) (h' : Heap) : Prop :=
  n0 ≤ h'.length ∧ ∀ Γ, Γ.n0 = n0 → Y Γ → ∀ (fr : Option Nat) ρ w (a : Act), Inv Γ ρ h w → VRs ρ t a.tmps.toList → Marks Γ fr a.defers w → c.wpIn (frF fr) 0 P (PostIs Γ fr e t' h') a w
def Rounds (P : Program) (Y : Ctx → Prop) (n0 n : Nat) (c : Code) (t : List AV) (h : Heap) (e : Exit) (t' : List AV) (h' : Heap) : Prop :=
  n0 ≤ h'.length ∧ ∀ Γ, Γ.n0 = n0 → Y Γ → ∀ (fr : Option Nat) ρ w (a : Act), Inv Γ ρ h w → VRs ρ t a.tmps.toList → Marks Γ fr a.defers w → Code.roundsIn (frF fr) 0 P c (PostIs Γ fr e t' h') n a w
theorem Runs.of_rounds {P : Program} {Y : Ctx → Prop} {n0 n : Nat} {c : Code} {t : List AV} {h : Heap} {e : Exit} {t' : List AV} {h' : Heap} (hr : Rounds P Y n0 n c t h e t' h') : Runs P Y n0 (.loop c) t h e t' h' :=
  ⟨hr.1, fun Γ hΓ hY fr ρ w a hI hV hd => wpIn_loop_rounds n (hr.2 Γ hΓ hY fr ρ w a hI hV hd)⟩
theorem Runs.weak {P : Program} {Y : Ctx → Prop} {n0 : Nat} {c : Code} {t : List AV} {h : Heap} {e : Exit} {t1 t' : List AV} {h1 h' : Heap} (hr : Runs P Y n0 c t h e t1 h1) {σ : List Nat} {l : List Ob} (hw : weakObs n0 σ t1 t' h1 h' = some l) (hob : ∀ p ∈ l, p.holds) (hn : n0 ≤ h'.length) : Runs P Y n0 c t h e t' h' := by
  refine ⟨hn, fun Γ hΓ hY fr ρ w a hI hV hd => wpIn_mono (hr.2 Γ hΓ hY fr ρ w a hI hV hd) fun e2 a2 w2 hp => ?_⟩
  obtain ⟨h1, ρ2, h2, h3, h4⟩ := hp
  obtain ⟨_, ρ3, h5, h6⟩ := weak_ok hw hob hΓ h2 h3
  exact ⟨h1, ρ3, h5, h6, h4⟩
theorem Rounds.step {P : Program} {Y : Ctx → Prop} {n0 n : Nat} {c : Code} {t : List AV} {h : Heap} {e : Exit} {t1 t2 t' : List AV} {h1 h2 h' : Heap} (hr : Runs P Y n0 c t h .normal t1 h1) {σ : List Nat} {l : List Ob} (hw : weakObs n0 σ t1 t2 h1 h2 = some l) (hob : ∀ p ∈ l, p.holds) (hrest : Rounds P Y n0 n c t2 h2 e t' h') : Rounds P Y n0 (n + 1) c t h e t' h' := by
  refine ⟨hrest.1, fun Γ hΓ hY fr ρ w a hI hV hd => ?_⟩
  refine wpIn_mono (hr.2 Γ hΓ hY fr ρ w a hI hV hd) fun e2 a2 w2 hp => ?_
  obtain ⟨rfl, ρ2, g2, g3, g4⟩ := hp
  obtain ⟨_, ρ3, g5, g6⟩ := weak_ok hw hob hΓ g2 g3
  exact hrest.2 Γ hΓ hY fr ρ3 w2 a2 g5 g6 g4
theorem Rounds.leave {P : Program} {Y : Ctx → Prop} {n0 n : Nat} {c : Code} {t : List AV} {h : Heap} {e : Exit} {t' : List AV} {h' : Heap} (hr : Runs P Y n0 c t h e t' h') (he : e ≠ .normal) : Rounds P Y n0 (n + 1) c t h e t' h' := by
  refine ⟨hr.1, fun Γ hΓ hY fr ρ w a hI hV hd => ?_⟩
  refine wpIn_mono (hr.2 Γ hΓ hY fr ρ w a hI hV hd) fun e2 a2 w2 hp => ?_
  obtain ⟨rfl, hp⟩ := hp
  cases e2 with
  | normal => exact absurd rfl he
  | _ => exact ⟨rfl, hp⟩
theorem Rounds.of_runs {P : Program} {Y : Ctx → Prop} {n0 n : Nat} {c : Code} {t : List AV} {h : Heap} {e : Exit} {t1 t' : List AV} {h1 h' : Heap} (hr : Runs P Y n0 c t h .normal t1 h1) (hrest : Rounds P Y n0 n c t1 h1 e t' h') : Rounds P Y n0 (n + 1) c t h e t' h' := by
  refine ⟨hrest.1, fun Γ hΓ hY fr ρ w a hI hV hd => ?_⟩
  refine wpIn_mono (hr.2 Γ hΓ hY fr ρ w a hI hV hd) fun e2 a2 w2 hp => ?_
  obtain ⟨rfl, ρ2, g2, g3, g4⟩ := hp
  exact hrest.2 Γ hΓ hY fr ρ2 w2 a2 g2 g3 g4
def wantedK {β : Type} (ops : Array Oper) (o : Oper) (t : List AV) (K : Bool → List AV → Option β) : Option β :=
  match o.guard with
  | none => K true t
  | some (j, want) => match (ops[j]?).bind (·.dst) with
    | none => K false t
    | some d => match t.getD d (.val undef) with
      | .val (.bool b) => bif b then K (true == want) (t.set d (.val (.bool true))) else K (false == want) (t.set d (.val (.bool false)))
      | .val (.tuple _) => K false t
      | _ => none
theorem set_self {t : List AV} {d : Nat} {v : AV} (h : t.getD d (.val undef) = v) : t.set d v = t := by
  apply List.ext_getElem?
  intro i
  rw [List.getElem?_set]
  split
  · rename_i hi
    subst hi
    split
    · rename_i hlt
      rw [List.getElem?_eq_getElem hlt]
      rw [List.getD_eq_getElem?_getD, List.getElem?_eq_getElem hlt] at h
      simp at h; rw [h]
    · rename_i hlt
      rw [List.getElem?_eq_none (by omega)]
  · rfl
theorem wantedK_some {β : Type} {ops : Array Oper} {o : Oper} {t : List AV} {K : Bool → List AV → Option β} {r : β} (h : wantedK ops o t K = some r) : ∃ b, wantedA ops o t = some b ∧ K b t = some r := by
  unfold wantedK at h
  unfold wantedA
  split at h
  · rename_i hg; simp only [hg]; exact ⟨true, rfl, h⟩
  · rename_i j want hg
    simp only [hg]
    split at h
    · rename_i hd; simp only [hd]; exact ⟨false, rfl, h⟩
    · rename_i d hd
      simp only [hd]
      split at h
      · rename_i b hb
        simp only [hb]
        refine ⟨_, rfl, ?_⟩
        cases b with
        | true =>
          simp only [cond_true] at h
          rw [set_self hb] at h; exact h
        | false =>
          simp only [cond_false] at h
          rw [set_self hb] at h; exact h
      · rename_i x hb; simp only [hb]; exact ⟨false, rfl, h⟩
      · cases h
def deferB : Op → Bool
  | .defer _ => true
  | _ => false
def stepK {β : Type} (P : Program) (env : Env P) (ops : Array Oper) (o : Oper) (t : List AV) (h : Heap) (K : List AV → Did → Option β) : Option β :=
  wantedK ops o t fun wt t => match wt with
    | false => K t ⟨guardSlot ops o, [], o.dst, .val undef, [], h.length, 0⟩
    | true => if deferB o.op = true then none else opK P env o (evalE t) h.get h.length fun e => K t ⟨guardSlot ops o ++ tmpsOf o.op.operands.toList, e.rb, o.dst, e.val, e.wb, h.length, e.nw⟩
theorem stepK_ok {β : Type} {P : Program} {env : Env P} {ops : Array Oper} {i : Nat} {o : Oper} (hi : ops[i]? = some o) {t : List AV} {h : Heap} {K : List AV → Did → Option β} {r : β} (hs : stepK P env ops o t h K = some r) : ∃ d, K t d = some r ∧ Good P env.Y ops i t h d := by
  unfold stepK at hs
  obtain ⟨b, hw, hs⟩ := wantedK_some hs
  have hwant : ∀ t', (∀ s ∈ guardSlot ops o, t'.getD s (.val undef) = t.getD s (.val undef)) → wantedA ops o t' = some b := by
    intro t' hg
    unfold wantedA at hw ⊢
    unfold guardSlot at hg
    cases hgd : o.guard with
    | none => simpa [hgd] using hw
    | some jw =>
      obtain ⟨j, want⟩ := jw
      simp only [hgd] at hw hg ⊢
      cases hdd : (ops[j]?).bind (·.dst) with
      | none => simpa [hdd] using hw
      | some d =>
        simp only [hdd] at hw hg ⊢
        rw [hg d (by simp)]; exact hw
  cases b with
  | false =>
    refine ⟨_, hs, rfl, fun Γ hY t' h' ha hn ρ w a hI hV ds hd fr Q K hK => ?_⟩
    unfold wpOpIn
    simp only [hi]
    have := yielded_of hV (hwant t' fun s hs => ha.slots s hs)
    simp only [this, Bool.false_eq_true, if_false]
    refine ⟨fun _ _ => trivial, hK ρ w _ hI (putT_VRs hV o.dst (by simp [VR])) ?_⟩
    cases o.dst <;> simpa [Act.put] using hd
  | true =>
    simp only at hs
    split at hs
    · cases hs
    rename_i hdef
    obtain ⟨e, hk, hok⟩ := opK_ok hs
    refine ⟨_, hk, rfl, fun Γ hY t' h' ha hn ρ w a hI hV ds hd fr Q K hK => ?_⟩
    unfold wpOpIn
    simp only [hi]
    have := yielded_of hV (hwant t' fun s hs => ha.slots s (List.mem_append.2 (.inl hs)))
    simp only [this, if_true]
    refine hok Γ hY ρ h' w a hI (fun x hx => ?_) (fun b hb => ha.blocks b hb) hn (fun x h1 h2 => ha.free x h1 h2) (fun c hc => hdef (by simp [deferB, hc])) fr K Q fun ρ' w' cv h1 h2 h3 => ?_
    · rw [← evalE_agree ha (x := x) fun s hs => by subst hs; exact List.mem_append.2 (.inr (mem_tmpsOf (by simpa using hx)))]
      exact VR_evalE hV x
    · refine hK ρ' w' _ h3 (putT_VRs (VRs.mono h1 _ _ hV) o.dst h2) ?_
      cases o.dst <;> simpa [Act.put] using hd
def forceEnt {β : Type} (e : Ent) (k : Ent → β) : β := match e with
  | .free => k .free
  | .dead => k .dead
  | .live ⟨c, r, g⟩ => match c, r with
    | .lit l, true => k (.live ⟨.lit l, true, g⟩)
    | .lit l, false => k (.live ⟨.lit l, false, g⟩)
    | .arr s l, true => k (.live ⟨.arr s l, true, g⟩)
    | .arr s l, false => k (.live ⟨.arr s l, false, g⟩)
    | c, true => k (.live ⟨c, true, g⟩)
    | c, false => k (.live ⟨c, false, g⟩)
theorem forceEnt_eq {β : Type} (e : Ent) (k : Ent → β) : forceEnt e k = k e := by
  unfold forceEnt
  split
  · rfl
  · rfl
  · split <;> rfl
def forceEs {β : Type} : List Ent → (List Ent → β) → β
  | [], k => k []
  | e :: l, k => forceEnt e fun e => forceEs l fun l => k (e :: l)
theorem forceEs_eq {β : Type} : ∀ (l : List Ent) (k : List Ent → β), forceEs l k = k l
  | [], _ => rfl
  | e :: l, k => by rw [forceEs, forceEnt_eq, forceEs_eq l]
def forceH {β : Type} (wb : List (Nat × Ent)) (h : Heap) (k : Heap → β) : β := match wb with
  | [] => k h
  | _ => forceEs h k
theorem forceH_eq {β : Type} (wb : List (Nat × Ent)) (h : Heap) (k : Heap → β) : forceH wb h k = k h := by
  unfold forceH
  split
  · rfl
  · exact forceEs_eq _ _
def setK {β : Type} : List AV → Nat → AV → (List AV → β) → β
  | [], _, _, k => k []
  | _ :: l, 0, v, k => k (v :: l)
  | a :: l, n + 1, v, k => setK l n v fun l => k (a :: l)
theorem setK_eq {β : Type} : ∀ (l : List AV) (n : Nat) (v : AV) (k : List AV → β), setK l n v k = k (l.set n v)
  | [], n, v, k => rfl
  | a :: l, 0, v, k => rfl
  | a :: l, n + 1, v, k => by rw [setK, setK_eq l n]; rfl
def putK {β : Type} (d : Option Nat) (v : AV) (t : List AV) (k : List AV → β) : β := match d with
  | some s => setK t s v k
  | none => k t
theorem putK_eq {β : Type} (d : Did) (t : List AV) (k : List AV → β) : putK d.ws d.val t k = k (d.t t) := by
  unfold putK Did.t putT
  cases d.ws with
  | none => rfl
  | some s => exact setK_eq _ _ _ _
def opsK {β : Type} (P : Program) (env : Env P) (ops : Array Oper) : List Oper → List AV → Heap → List Did → (List Did → List AV → Heap → Option β) → Option β
  | [], t, h, acc, K => K acc.reverse t h
  | o :: rest, t, h, acc, K => stepK P env ops o t h fun t d => forceH d.wb (d.h h) fun h => putK d.ws d.val t fun t => opsK P env ops rest t h (d :: acc) K
theorem opsK_ok {β : Type} {P : Program} {env : Env P} {ops : Array Oper} {K : List Did → List AV → Heap → Option β} {r : β} : ∀ (l : List Oper) (k : Nat) (t : List AV) (h : Heap) (acc : List Did), (∀ i o, l[i]? = some o → ops[k + i]? = some o) → opsK P env ops l t h acc K = some r →
    ∃ dids, dids.length = l.length ∧ GoodAll P env.Y ops k t h dids ∧ K (acc.reverse ++ dids) (endT t dids) (endH h dids) = some r
  | [], k, t, h, acc, _, hs => ⟨[], rfl, trivial, by simpa [opsK, endT, endH] using hs⟩
  | o :: rest, k, t, h, acc, hl, hs => by
    simp only [opsK, forceH_eq, putK_eq] at hs
    obtain ⟨d, hk, hg⟩ := stepK_ok (i := k) (by simpa using hl 0 o rfl) hs
    obtain ⟨dids, h1, h2, h3⟩ := opsK_ok rest (k + 1) _ _ _ (fun i o' hi => by have := hl (i + 1) o' (by simpa using hi); rw [show k + 1 + i = k + (i + 1) by omega]; exact this) hk
    exact ⟨d :: dids, by simp [h1], ⟨hg, h2⟩, by simpa [endT, endH] using h3⟩
def regK {β : Type} (P : Program) (env : Env P) (ops : Array Oper) (draw : Bool) (t : List AV) (h : Heap) (K : List AV → Heap → Option β) : Option β :=
  opsK P env ops ops.toList t h [] fun dids t' h' => match draw with
    | false => K t' h'
    | true => match masks ops.toList [] with
      | none => none
      | some ms => ifK (confs dids ms) (K t' h')
theorem regK_ok {β : Type} {P : Program} (hm : P.follows .mixedOrders = true) {env : Env P} {id : Nat} {ops : Array Oper} {draw : Bool} {t : List AV} {h : Heap} {K : List AV → Heap → Option β} {r : β} {n0 : Nat} (hn : n0 ≤ h.length) (hs : regK P env ops draw t h K = some r) :
    ∃ t' h', K t' h' = some r ∧ Runs P env.Y n0 (.region id ops draw) t h .normal t' h' := by
  unfold regK at hs
  obtain ⟨dids, h1, h2, h3⟩ := opsK_ok ops.toList 0 t h [] (fun i o hi => by simpa using hi) hs
  have hlen : dids.length = ops.size := by simpa using h1
  simp only [List.reverse_nil, List.nil_append] at h3
  have key : (draw = true → ∃ ms, masks ops.toList [] = some ms ∧ confs dids ms = true) → Runs P env.Y n0 (.region id ops draw) t h .normal (endT t dids) (endH h dids) := fun hdr =>
    ⟨Nat.le_trans hn (endH_length _ _), fun Γ hΓ hY fr ρ w a hI hV hd => region_ok hm (Γ := ⟨h.length, ρ, h, w⟩) (env.stable Γ ρ h w hY hI (by omega)) hlen h2 hdr (Nat.le_refl _) hI.here hV rfl fun ρ' w' a' g1 g2 g3 => ⟨rfl, ρ', hI.trans (by omega) g1, g2, by rw [g3]; exact Marks.mono (Inv.quiet hI.sim g1) hd⟩⟩
  cases draw with
  | false => exact ⟨_, _, h3, key (by simp)⟩
  | true =>
    simp only at h3
    split at h3
    · cases h3
    · rename_i ms hms
      obtain ⟨hc, hK⟩ := ifK_some h3
      exact ⟨_, _, hK, key fun _ => ⟨ms, hms, hc⟩⟩
structure LSumm (P : Program) (Y : Ctx → Prop := fun _ => True) where
  c : Code
  S : {β : Type} → Nat → List AV → Heap → (Exit → List AV → Heap → Option β) → Option β
  ok : ∀ {β : Type} (n0 : Nat) (t : List AV) (h : Heap) (K : Exit → List AV → Heap → Option β) (r : β), n0 ≤ h.length → S n0 t h K = some r → ∃ e t' h', K e t' h' = some r ∧ Runs P Y n0 c t h e t' h'
abbrev Loops (P : Program) (Y : Ctx → Prop := fun _ => True) := List (List Nat × LSumm P Y)
def Loops.find {P : Program} {Y : Ctx → Prop} : Loops P Y → List Nat → Option (LSumm P Y)
  | [], _ => none
  | s :: l, p => if s.1 = p then some s.2 else Loops.find l p
def kid : Code → Nat → Option Code
  | .seq a _, 0 => some a
  | .seq _ b, 1 => some b
  | .cond _ x _, 0 => some x
  | .cond _ _ y, 1 => some y
  | .block _ b, 0 => some b
  | .loop b, 0 => some b
  | .scope b, 0 => some b
  | _, _ => none
def subAt (C : Code) : List Nat → Option Code
  | [] => some C
  | i :: p => (subAt C p).bind fun c => kid c i
def Loops.fit {P : Program} {Y : Ctx → Prop} (C : Code) (L : Loops P Y) : Prop := ∀ s ∈ L, subAt C s.1 = some s.2.c
theorem Loops.find_ok {P : Program} {Y : Ctx → Prop} {C : Code} : ∀ (L : Loops P Y) (p : List Nat) (s : LSumm P Y), L.fit C → L.find p = some s → subAt C p = some s.c
  | [], p, s, _, h => by simp [Loops.find] at h
  | x :: l, p, s, hf, h => by
    simp only [Loops.find] at h
    split at h
    · rename_i hp; injection h with h; subst h; subst hp; exact hf x (List.mem_cons_self ..)
    · exact Loops.find_ok l p s (fun y hy => hf y (List.mem_cons_of_mem _ hy)) h
def blockExit (id : Nat) : Exit → Exit
  | .exit i => if i = id then .normal else .exit i
  | e => e
inductive Todo where
  | code (c : Code)
  | rounds (c : Code)
  | jumps (c x : Code)
def quietD (dids : List Did) : Bool := dids.all fun d => d.wb.isEmpty
def slotsD : List Did → List Nat
  | [] => []
  | d :: l => match d.ws with
    | some s => s :: slotsD l
    | none => slotsD l
theorem endH_quiet : ∀ (dids : List Did) (h : Heap), quietD dids = true → endH h dids = h
  | [], h, _ => rfl
  | d :: l, h, hq => by
    simp only [quietD, List.all_cons, Bool.and_eq_true] at hq
    have : d.wb = [] := by simpa using hq.1
    simp only [endH, Did.h, this, Heap.upds]
    exact endH_quiet l h hq.2
theorem endT_same : ∀ (dids : List Did) (t : List AV) (i : Nat), i ∉ slotsD dids → (endT t dids)[i]? = t[i]?
  | [], t, i, _ => rfl
  | d :: l, t, i, hi => by
    simp only [endT]
    unfold slotsD at hi
    split at hi
    · rename_i s hs
      simp only [List.mem_cons, not_or] at hi
      rw [endT_same l _ i hi.2]
      simp only [Did.t, putT, hs]
      rw [List.getElem?_set_ne (fun e => hi.1 e.symm)]
    · rename_i hs
      rw [endT_same l _ i hi]
      simp only [Did.t, putT, hs]
theorem endT_len : ∀ (dids : List Did) (t : List AV), (endT t dids).length = t.length
  | [], t => rfl
  | d :: l, t => by
    simp only [endT]
    rw [endT_len l]
    unfold Did.t putT
    split <;> simp
def pureC {P : Program} (env : Env P) (h : Heap) : Code → List AV → Option (List AV × List Nat)
  | .skip, t => some (t, [])
  | .region _ ops false, t => opsK P env ops ops.toList t h [] fun dids t' _ => match quietD dids with
    | true => some (t', slotsD dids)
    | false => none
  | .seq a b, t => match pureC env h a t with
    | some (t1, s1) => (match pureC env h b t1 with
      | some (t2, s2) => some (t2, s1 ++ s2)
      | none => none)
    | none => none
  | _, _ => none
theorem pureC_ok {P : Program} (hm : P.follows .mixedOrders = true) {env : Env P} {n0 : Nat} {h : Heap} (hn : n0 ≤ h.length) : ∀ (x : Code) (t t1 : List AV) (s : List Nat), pureC env h x t = some (t1, s) → Runs P env.Y n0 x t h .normal t1 h ∧ (∀ i, i ∉ s → t1[i]? = t[i]?) ∧ t1.length = t.length
  | .skip, t, t1, s, hp => by
    simp only [pureC] at hp
    injection hp with hp; injection hp with h1 h2; subst h1; subst h2
    exact ⟨⟨hn, fun Γ hΓ hY fr ρ w a hI hV hd => wpIn_skip ⟨rfl, ρ, hI, hV, hd⟩⟩, fun _ _ => rfl, rfl⟩
  | .region id ops draw, t, t1, s, hp => by
    cases draw with
    | true => simp [pureC] at hp
    | false =>
      simp only [pureC] at hp
      obtain ⟨dids, h1, h2, h3⟩ := opsK_ok ops.toList 0 t h [] (fun i o hi => by simpa using hi) hp
      have hlen : dids.length = ops.size := by simpa using h1
      simp only [List.reverse_nil, List.nil_append] at h3
      split at h3
      case h_2 => cases h3
      rename_i hq
      injection h3 with h3; injection h3 with e1 e2; subst e1; subst e2
      have hh := endH_quiet dids h hq
      refine ⟨⟨hn, fun Γ hΓ hY fr ρ w a hI hV hd => ?_⟩, endT_same dids t, endT_len dids t⟩
      exact region_ok hm (Γ := ⟨h.length, ρ, h, w⟩) (env.stable Γ ρ h w hY hI (by omega)) hlen h2 (by simp) (Nat.le_refl _) hI.here hV rfl fun ρ' w' a' g1 g2 g3 => by
        rw [hh] at g1
        exact ⟨rfl, ρ', hI.trans (by omega) g1, g2, by rw [g3]; exact Marks.mono (Inv.quiet hI.sim g1) hd⟩
  | .seq a b, t, t1, s, hp => by
    simp only [pureC] at hp
    split at hp
    case h_2 => cases hp
    rename_i ta sa ha
    split at hp
    case h_2 => cases hp
    rename_i tb sb hb
    injection hp with hp; injection hp with e1 e2; subst e1; subst e2
    obtain ⟨ra, ka, la⟩ := pureC_ok hm hn a t ta sa ha
    obtain ⟨rb, kb, lb⟩ := pureC_ok hm hn b ta tb sb hb
    refine ⟨⟨hn, fun Γ hΓ hY fr ρ w act hI hV hd => wpIn_seq (wpIn_mono (ra.2 Γ hΓ hY fr ρ w act hI hV hd) fun e3 a3 w3 hp => ?_)⟩, fun i hi => ?_, lb.trans la⟩
    · obtain ⟨rfl, ρ3, g1, g2, g3⟩ := hp
      exact rb.2 Γ hΓ hY fr ρ3 w3 a3 g1 g2 g3
    · simp only [List.mem_append, not_or] at hi
      rw [kb i hi.2, ka i hi.1]
  | .cond .., _, _, _, hp => by simp [pureC] at hp
  | .block .., _, _, _, hp => by simp [pureC] at hp
  | .loop .., _, _, _, hp => by simp [pureC] at hp
  | .rangeFunc .., _, _, _, hp => by simp [pureC] at hp
  | .exit .., _, _, _, hp => by simp [pureC] at hp
  | .scope .., _, _, _, hp => by simp [pureC] at hp
  | .label .., _, _, _, hp => by simp [pureC] at hp
  | .goto .., _, _, _, hp => by simp [pureC] at hp
  | .ret, _, _, _, hp => by simp [pureC] at hp
  | .refuse .., _, _, _, hp => by simp [pureC] at hp
def mergeA (v : Bool) : AV → AV → AV
  | .val (.int k a), .val (.int k' b) => if k = k' then .val (.int k (bif v then a else b)) else .any
  | .val (.bool a), .val (.bool b) => .val (.bool (bif v then a else b))
  | _, _ => .any
theorem mergeA_ok {ρ : Ren} (v : Bool) (a b : AV) (cv : Value) (h : VR ρ (bif v then a else b) cv) : VR ρ (mergeA v a b) cv := by
  unfold mergeA
  split
  · split
    · rename_i hk
      subst hk
      cases v <;> simpa [VR] using h
    · simp [VR]
  · cases v <;> simpa [VR] using h
  · simp [VR]
def mergeT (v : Bool) (t1 t2 : List AV) : List Nat → List AV → List AV
  | [], t => t
  | s :: l, t => mergeT v t1 t2 l (t.set s (mergeA v (t1.getD s (.val undef)) (t2.getD s (.val undef))))
theorem mergeT_ok {ρ : Ren} {v : Bool} {t1 t2 : List AV} {cs : List Value} (hV : VRs ρ (bif v then t1 else t2) cs) : ∀ (l : List Nat) (t : List AV), t.length = cs.length → (∀ i a, i ∉ l → t[i]? = some a → ∃ cv, cs[i]? = some cv ∧ VR ρ a cv) → VRs ρ (mergeT v t1 t2 l t) cs
  | [], t, hl, h => VRs.of_get hl fun i a hi => h i a (by simp) hi
  | s :: l, t, hl, h => by
    simp only [mergeT]
    refine mergeT_ok hV l _ (by simpa using hl) fun i a hi ha => ?_
    rw [List.getElem?_set] at ha
    split at ha
    · rename_i he
      subst he
      split at ha
      case isFalse => cases ha
      rename_i hlt
      injection ha with ha; subst ha
      have hlt' : s < (bif v then t1 else t2).length := by rw [hV.length, ← hl]; exact hlt
      obtain ⟨cv, k1, k2⟩ := hV.get s _ (List.getElem?_eq_getElem hlt')
      refine ⟨cv, k1, mergeA_ok v _ _ cv ?_⟩
      cases v with
      | true =>
        simp only [cond_true] at k2 hlt' ⊢
        rw [List.getD_eq_getElem?_getD, List.getElem?_eq_getElem hlt']; exact k2
      | false =>
        simp only [cond_false] at k2 hlt' ⊢
        rw [List.getD_eq_getElem?_getD (l := t2), List.getElem?_eq_getElem hlt']; exact k2
    · rename_i hne
      exact h i a (by simp only [List.mem_cons, not_or]; exact ⟨fun e => hne e.symm, hi⟩) ha
def Env.joins {P : Program} (env : Env P) : Bool := env.l.any fun s => s.f == 1000001
def joinK {β : Type} (j : Bool) (m1 m2 : Option (List AV × List Nat)) (v : Bool) (t : List AV) (K : List AV → Option β) (F : Option β) : Option β := match j with
  | false => F
  | true => match m1, m2 with
    | some (t1, s1), some (t2, s2) => K (mergeT v t1 t2 (s1 ++ s2) t)
    | _, _ => F
theorem joinK_some {β : Type} {j : Bool} {m1 m2 : Option (List AV × List Nat)} {v : Bool} {t : List AV} {K : List AV → Option β} {F : Option β} {r : β} (h : joinK j m1 m2 v t K F = some r) : F = some r ∨ ∃ t1 s1 t2 s2, m1 = some (t1, s1) ∧ m2 = some (t2, s2) ∧ K (mergeT v t1 t2 (s1 ++ s2) t) = some r := by
  unfold joinK at h
  split at h
  · exact .inl h
  · split at h
    · exact .inr ⟨_, _, _, _, rfl, rfl, h⟩
    · exact .inl h
def codeK {β : Type} (P : Program) (env : Env P) (n0 : Nat) : Nat → Loops P env.Y → List Nat → Todo → List AV → Heap → (Exit → List AV → Heap → Option β) → Option β
  | 0, _, _, _, _, _, _ => none
  | f + 1, L, p, .code .skip, t, h, K => K .normal t h
  | f + 1, L, p, .code (.label _), t, h, K => K .normal t h
  | f + 1, L, p, .code (.exit id), t, h, K => K (.exit id) t h
  | f + 1, L, p, .code (.goto l), t, h, K => K (.goto l) t h
  | f + 1, L, p, .code .ret, t, h, K => K .ret t h
  | f + 1, L, p, .code (.region _ ops draw), t, h, K => regK P env ops draw t h fun t' h' => K .normal t' h'
  | f + 1, L, p, .code (.seq a b), t, h, K => codeK P env n0 f L (0 :: p) (.code a) t h fun e t' h' => match e with
    | .normal => codeK P env n0 f L (1 :: p) (.code b) t' h' K
    | e => K e t' h'
  | f + 1, L, p, .code (.cond c x y), t, h, K => match evalE t c with
    | .val (.bool v) => joinK env.joins (pureC env h x t) (pureC env h y t) v t (fun t' => K .normal t' h) (bif v then codeK P env n0 f L (0 :: p) (.code x) t h K else codeK P env n0 f L (1 :: p) (.code y) t h K)
    | _ => none
  | f + 1, L, p, .code (.block id b), t, h, K => codeK P env n0 f L (0 :: p) (.code b) t h fun e t' h' => K (blockExit id e) t' h'
  | f + 1, L, p, .code (.loop b), t, h, K => match L.find p with
    | some s => s.S n0 t h K
    | none => codeK P env n0 f L (0 :: p) (.rounds b) t h K
  | f + 1, L, p, .code (.rangeFunc ..), t, h, K => match L.find p with
    | some s => s.S n0 t h K
    | none => none
  | f + 1, L, p, .rounds b, t, h, K => codeK P env n0 f L p (.code b) t h fun e t' h' => match e with
    | .normal => codeK P env n0 f L p (.rounds b) t' h' K
    | e => K e t' h'
  | f + 1, L, p, .code (.scope b), t, h, K => codeK P env n0 f L (0 :: p) (.jumps b b) t h K
  | f + 1, L, p, .jumps b x, t, h, K => codeK P env n0 f L p (.code x) t h fun e t' h' => match e with
    | .goto l => (match findLabel b l with
      | some rest => codeK P env n0 f [] [] (.jumps b rest) t' h' K
      | none => K (.goto l) t' h')
    | e => K e t' h'
  | _, _, _, _, _, _, _ => none
def Code.hops (F : Fence) (m : Nat) (P : Program) (c : Code) (Q : Exit → Act → World → Prop) : Nat → Code → Act → World → Prop
  | 0, _, _, _ => False
  | n + 1, x, a, w => x.wpIn F m P (fun e a w => match e with
    | .goto l => (match findLabel c l with
      | some rest => Code.hops F m P c Q n rest a w
      | none => Q (.goto l) a w)
    | e => Q e a w) a w
theorem wpIn_scope_hops {F : Fence} {m : Nat} {P : Program} {Q : Exit → Act → World → Prop} {c : Code} (n : Nat) {a : Act} {w : World} (h : Code.hops F m P c Q n c a w) : (Code.scope c).wpIn F m P Q a w := by
  intro b k cs hro hb hr
  have s1 : ∀ {a w}, step P (lone (b.atR a (.code (.scope c) :: k)) cs w) = .next (lone (b.atR a (.code c :: .inScope c :: k)) cs w) := fun {a w} => step_lone_go (by simp [stepG, stepG.exec, Frame.atR])
  have s2 : ∀ {a w}, step P (lone (b.atR a (.inScope c :: k)) cs w) = .next (lone (b.atR a k) cs w) := fun {a w} => step_lone_go (by simp [stepG, stepG.exec, Frame.atR])
  have key : ∀ n x a w, Code.hops F m P c Q n x a w → ∃ e a' w', Q e a' w' ∧ ArrivesIn (Machine.fenced P F) P (lone (b.atR a (.code x :: .inScope c :: k)) cs w) b k cs e a' w' := by
    intro n
    induction n with
    | zero => intro x a w h; exact h.elim
    | succ n ih =>
      intro x a w h
      obtain ⟨e, a₁, w₁, hq, harr⟩ := h b (.inScope c :: k) cs hro hb hr
      cases e with
      | normal => exact ⟨.normal, a₁, w₁, hq, StepsIn.trans harr (.one (fenced_calm hb hr rfl) s2)⟩
      | exit id =>
        have hx : exitTo id (.inScope c :: k) = exitTo id k := by simp [exitTo]
        exact ⟨.exit id, a₁, w₁, hq, fun k' hk => harr.1 k' (by rw [hx]; exact hk), fun hr' hk => harr.2 hr' (by rw [hx]; exact hk)⟩
      | goto l =>
        simp only at hq
        split at hq
        · rename_i rest hrest
          obtain ⟨e₂, a₂, w₂, hq₂, harr₂⟩ := ih rest a₁ w₁ hq
          exact ⟨e₂, a₂, w₂, hq₂, .of_steps (harr.1 _ (by simp [gotoIn, hrest])) harr₂⟩
        · rename_i hrest
          have hx : gotoIn l (.inScope c :: k) = gotoIn l k := by simp [gotoIn, hrest]
          exact ⟨.goto l, a₁, w₁, hq, fun k' hk => harr.1 k' (by rw [hx]; exact hk), fun hr' hk => harr.2 hr' (by rw [hx]; exact hk)⟩
      | ret => exact ⟨_, a₁, w₁, hq, harr⟩
      | panic ch => exact ⟨_, a₁, w₁, hq, harr⟩
      | outgrown => exact ⟨_, a₁, w₁, hq, harr⟩
  obtain ⟨e, a₁, w₁, hq, harr⟩ := key n c a w h
  exact ⟨e, a₁, w₁, hq, .of_steps (.one (fenced_calm hb hr rfl) s1) harr⟩
def Hops (P : Program) (Y : Ctx → Prop) (n0 n : Nat) (c x : Code) (t : List AV) (h : Heap) (e : Exit) (t' : List AV) (h' : Heap) : Prop :=
  n0 ≤ h'.length ∧ ∀ Γ, Γ.n0 = n0 → Y Γ → ∀ (fr : Option Nat) ρ w (a : Act), Inv Γ ρ h w → VRs ρ t a.tmps.toList → Marks Γ fr a.defers w → Code.hops (frF fr) 0 P c (PostIs Γ fr e t' h') n x a w
def Todo.good (P : Program) (Y : Ctx → Prop) (n0 : Nat) : Todo → List AV → Heap → Exit → List AV → Heap → Prop
  | .code c, t, h, e, t', h' => Runs P Y n0 c t h e t' h'
  | .rounds c, t, h, e, t', h' => ∃ n, Rounds P Y n0 n c t h e t' h'
  | .jumps c x, t, h, e, t', h' => ∃ n, Hops P Y n0 n c x t h e t' h'
def Todo.at_ (C : Code) : Todo → List Nat → Prop
  | .code c, p => subAt C p = some c
  | .rounds c, p => subAt C p = some c
  | .jumps c x, p => subAt C p = some x
theorem codeK_ok {β : Type} {P : Program} (hm : P.follows .mixedOrders = true) {env : Env P} {n0 : Nat} {r : β} : ∀ (f : Nat) (L : Loops P env.Y) (p : List Nat) (td : Todo) (t : List AV) (h : Heap) (K : Exit → List AV → Heap → Option β) (C : Code), L.fit C → (L = [] ∨ td.at_ C p) → n0 ≤ h.length → codeK P env n0 f L p td t h K = some r →
    ∃ e t' h', K e t' h' = some r ∧ n0 ≤ h'.length ∧ td.good P env.Y n0 t h e t' h'
  | 0, L, p, td, t, h, K, C, _, _, hn, hr => by simp [codeK] at hr
  | f + 1, L, p, td, t, h, K, C, hL, hp, hn, hr => by
    have sub : ∀ i c c', (L = [] ∨ subAt C p = some c) → kid c i = some c' → (L = [] ∨ subAt C (i :: p) = some c') := by
      intro i c c' h1 h2
      rcases h1 with h1 | h1
      · exact .inl h1
      · exact .inr (by simp [subAt, h1, h2])
    cases td with
    | rounds b =>
      simp only [codeK] at hr
      obtain ⟨e, t1, h1, hk, hn1, hg⟩ := codeK_ok hm f L p (.code b) t h _ C hL hp hn hr
      cases e with
      | normal =>
        simp only at hk
        obtain ⟨e2, t2, h2, hk2, hn2, n, hg2⟩ := codeK_ok hm f L p (.rounds b) t1 h1 _ C hL hp hn1 hk
        exact ⟨e2, t2, h2, hk2, hn2, n + 1, Rounds.of_runs hg hg2⟩
      | _ => exact ⟨_, t1, h1, hk, hn1, 1, Rounds.leave hg (by simp)⟩
    | jumps b x =>
      simp only [codeK] at hr
      obtain ⟨e, t1, h1, hk, hn1, hg⟩ := codeK_ok hm f L p (.code x) t h _ C hL hp hn hr
      have leave : ∀ e', e = e' → (∀ l, e' = .goto l → findLabel b l = none) → Hops P env.Y n0 1 b x t h e t1 h1 := by
        intro e' he hl
        refine ⟨hn1, fun Γ hΓ hY fr ρ w a hI hV hd => ?_⟩
        refine wpIn_mono (hg.2 Γ hΓ hY fr ρ w a hI hV hd) fun e2 a2 w2 hp => ?_
        obtain ⟨h5, hp⟩ := hp
        subst h5
        cases he' : e2 with
        | goto l =>
          simp only [hl l (by rw [← he, he'])]
          exact ⟨rfl, hp⟩
        | _ => exact ⟨rfl, hp⟩
      cases e with
      | goto l =>
        simp only at hk
        split at hk
        · rename_i rest hrest
          obtain ⟨e2, t2, h2, hk2, hn2, n, hg2⟩ := codeK_ok hm f [] [] (.jumps b rest) t1 h1 _ C (by intro s hs; simp at hs) (.inl rfl) hn1 hk
          refine ⟨e2, t2, h2, hk2, hn2, n + 1, hn2, fun Γ hΓ hY fr ρ w a hI hV hd => ?_⟩
          refine wpIn_mono (hg.2 Γ hΓ hY fr ρ w a hI hV hd) fun e3 a3 w3 hp => ?_
          obtain ⟨rfl, ρ3, g1, g2, g3⟩ := hp
          simp only [hrest]
          exact hg2.2 Γ hΓ hY fr ρ3 w3 a3 g1 g2 g3
        · rename_i hrest
          exact ⟨_, t1, h1, hk, hn1, 1, leave _ rfl (fun l' hl => by injection hl with hl; subst hl; exact hrest)⟩
      | _ => exact ⟨_, t1, h1, hk, hn1, 1, leave _ rfl (by simp)⟩
    | code c =>
    cases c with
    | skip => simp only [codeK] at hr; exact ⟨_, t, h, hr, hn, hn, fun Γ hΓ hY fr ρ w a hI hV hd => wpIn_skip ⟨rfl, ρ, hI, hV, hd⟩⟩
    | label l => simp only [codeK] at hr; exact ⟨_, t, h, hr, hn, hn, fun Γ hΓ hY fr ρ w a hI hV hd => wpIn_label ⟨rfl, ρ, hI, hV, hd⟩⟩
    | exit id => simp only [codeK] at hr; exact ⟨_, t, h, hr, hn, hn, fun Γ hΓ hY fr ρ w a hI hV hd => wpIn_exit ⟨rfl, ρ, hI, hV, hd⟩⟩
    | goto l => simp only [codeK] at hr; exact ⟨_, t, h, hr, hn, hn, fun Γ hΓ hY fr ρ w a hI hV hd => wpIn_goto ⟨rfl, ρ, hI, hV, hd⟩⟩
    | ret => simp only [codeK] at hr; exact ⟨_, t, h, hr, hn, hn, fun Γ hΓ hY fr ρ w a hI hV hd => wpIn_ret ⟨rfl, ρ, hI, hV, hd⟩⟩
    | region id ops draw =>
      simp only [codeK] at hr
      obtain ⟨t1, h1, hk, hg⟩ := regK_ok (id := id) hm hn hr
      exact ⟨_, t1, h1, hk, hg.1, hg⟩
    | seq a b =>
      simp only [codeK] at hr
      obtain ⟨e, t1, h1, hk, hn1, hg⟩ := codeK_ok hm f L (0 :: p) (.code a) t h _ C hL (sub 0 _ _ hp rfl) hn hr
      have leave : e ≠ .normal → Runs P env.Y n0 (.seq a b) t h e t1 h1 := fun he =>
        ⟨hn1, fun Γ hΓ hY fr ρ w act hI hV hd => wpIn_seq (wpIn_mono (hg.2 Γ hΓ hY fr ρ w act hI hV hd) fun e2 a2 w2 hp => by
          obtain ⟨rfl, hp⟩ := hp
          cases e2 with
          | normal => exact absurd rfl he
          | _ => exact ⟨rfl, hp⟩)⟩
      cases e with
      | normal =>
        simp only at hk
        obtain ⟨e2, t2, h2, hk2, hn2, hg2⟩ := codeK_ok hm f L (1 :: p) (.code b) t1 h1 _ C hL (sub 1 _ _ hp rfl) hn1 hk
        refine ⟨e2, t2, h2, hk2, hn2, hn2, fun Γ hΓ hY fr ρ w act hI hV hd => wpIn_seq (wpIn_mono (hg.2 Γ hΓ hY fr ρ w act hI hV hd) fun e3 a3 w3 hp => ?_)⟩
        obtain ⟨rfl, ρ3, g1, g2, g3⟩ := hp
        exact hg2.2 Γ hΓ hY fr ρ3 w3 a3 g1 g2 g3
      | _ => exact ⟨_, t1, h1, hk, hn1, leave (by simp)⟩
    | cond c x y =>
      simp only [codeK] at hr
      split at hr
      case h_2 => cases hr
      rename_i v hc
      have hcv : ∀ {ρ : Ren} {act : Act}, VRs ρ t act.tmps.toList → act.eval c = .bool v := fun hV => by
        have := VR_evalE hV c
        rw [hc] at this; simpa [VR] using this
      rcases joinK_some hr with hr | ⟨tx, sx, ty, sy, hx, hy', hk⟩
      case inr =>
        obtain ⟨rx, kx, lx⟩ := pureC_ok hm hn x t tx sx hx
        obtain ⟨ry, ky, ly⟩ := pureC_ok hm hn y t ty sy hy'
        have fin : ∀ {Γ : Ctx} {fr : Option Nat} {e2 : Exit} {a2 : Act} {w2 : World}, PostIs Γ fr .normal (bif v then tx else ty) h e2 a2 w2 → PostIs Γ fr .normal (mergeT v tx ty (sx ++ sy) t) h e2 a2 w2 := fun hp => by
          obtain ⟨rfl, ρ3, g1, g2, g3⟩ := hp
          refine ⟨rfl, ρ3, g1, mergeT_ok g2 _ _ ?_ fun i a hi ha => ?_, g3⟩
          · rw [← g2.length]; cases v
            · exact ly.symm
            · exact lx.symm
          · simp only [List.mem_append, not_or] at hi
            refine g2.get i a ?_
            cases v
            · exact (ky i hi.2).trans ha
            · exact (kx i hi.1).trans ha
        refine ⟨_, _, _, hk, hn, hn, fun Γ hΓ hY fr ρ w act hI hV hd => ?_⟩
        cases v with
        | true => exact wpIn_cond_true (hcv hV) (wpIn_mono (rx.2 Γ hΓ hY fr ρ w act hI hV hd) fun e2 a2 w2 hp => fin hp)
        | false => exact wpIn_cond_false (hcv hV) (wpIn_mono (ry.2 Γ hΓ hY fr ρ w act hI hV hd) fun e2 a2 w2 hp => fin hp)
      cases v with
      | true =>
        obtain ⟨e, t1, h1, hk, hn1, hg⟩ := codeK_ok hm f L (0 :: p) (.code x) t h _ C hL (sub 0 _ _ hp rfl) hn hr
        refine ⟨e, t1, h1, hk, hn1, hn1, fun Γ hΓ hY fr ρ w act hI hV hd => wpIn_cond_true ?_ (hg.2 Γ hΓ hY fr ρ w act hI hV hd)⟩
        have := VR_evalE hV c
        rw [hc] at this; simpa [VR] using this
      | false =>
        obtain ⟨e, t1, h1, hk, hn1, hg⟩ := codeK_ok hm f L (1 :: p) (.code y) t h _ C hL (sub 1 _ _ hp rfl) hn hr
        refine ⟨e, t1, h1, hk, hn1, hn1, fun Γ hΓ hY fr ρ w act hI hV hd => wpIn_cond_false ?_ (hg.2 Γ hΓ hY fr ρ w act hI hV hd)⟩
        have := VR_evalE hV c
        rw [hc] at this; simpa [VR] using this
    | block id b =>
      simp only [codeK] at hr
      obtain ⟨e, t1, h1, hk, hn1, hg⟩ := codeK_ok hm f L (0 :: p) (.code b) t h _ C hL (sub 0 _ _ hp rfl) hn hr
      refine ⟨_, t1, h1, hk, hn1, hn1, fun Γ hΓ hY fr ρ w act hI hV hd => wpIn_block (wpIn_mono (hg.2 Γ hΓ hY fr ρ w act hI hV hd) fun e2 a2 w2 hp => ?_)⟩
      obtain ⟨rfl, hp⟩ := hp
      cases e2 with
      | exit i =>
        simp only [Exit.inBlock, blockExit]
        split
        · exact ⟨rfl, hp⟩
        · exact ⟨rfl, hp⟩
      | _ => exact ⟨rfl, hp⟩
    | loop b =>
      simp only [codeK] at hr
      split at hr
      · rename_i s hs
        have hb : subAt C p = some (.loop b) := by
          rcases hp with hp | hp
          · subst hp; simp [Loops.find] at hs
          · exact hp
        have hb2 := Loops.find_ok L p s hL hs
        rw [hb] at hb2
        injection hb2 with hb2
        obtain ⟨e, t1, h1, hk, hg⟩ := s.ok n0 t h K r hn hr
        rw [← hb2] at hg
        exact ⟨e, t1, h1, hk, hg.1, hg⟩
      · obtain ⟨e, t1, h1, hk, hn1, n, hg⟩ := codeK_ok hm f L (0 :: p) (.rounds b) t h _ C hL (sub 0 _ _ hp rfl) hn hr
        exact ⟨e, t1, h1, hk, hn1, Runs.of_rounds hg⟩
    | scope b =>
      simp only [codeK] at hr
      obtain ⟨e, t1, h1, hk, hn1, n, hg⟩ := codeK_ok hm f L (0 :: p) (.jumps b b) t h _ C hL (sub 0 _ _ hp rfl) hn hr
      exact ⟨e, t1, h1, hk, hn1, hn1, fun Γ hΓ hY fr ρ w act hI hV hd => wpIn_scope_hops n (hg.2 Γ hΓ hY fr ρ w act hI hV hd)⟩
    | rangeFunc g ps asg b =>
      simp only [codeK] at hr
      split at hr
      · rename_i s hs
        have hb : subAt C p = some (.rangeFunc g ps asg b) := by
          rcases hp with hp | hp
          · subst hp; simp [Loops.find] at hs
          · exact hp
        have hb2 := Loops.find_ok L p s hL hs
        rw [hb] at hb2
        injection hb2 with hb2
        obtain ⟨e, t1, h1, hk, hg⟩ := s.ok n0 t h K r hn hr
        rw [← hb2] at hg
        exact ⟨e, t1, h1, hk, hg.1, hg⟩
      · cases hr
    | _ => simp [codeK] at hr
def resA (P : Program) (t : List AV) (h : Heap) : List ResultVar → Option (List AV)
  | [] => some []
  | .tmp s :: l => (resA P t h l).map ((t.getD s (.val undef)) :: ·)
  | .cell a ty :: l => match t.getD a (.val undef) with
    | .ptr b o => match h.get b with
      | .live blk => match blk.cells with
        | .lit cs => (partA P ty cs o).bind fun v => (resA P t h l).map (v :: ·)
        | _ => none
      | _ => none
    | _ => none
def resV : List AV → AV
  | [v] => v
  | l => .tup l
theorem run_results {P : Program} {Γ : Ctx} {ρ : Ren} {h : Heap} {w : World} (hI : Inv Γ ρ h w) {t : List AV} {a : Act} (hV : VRs ρ t a.tmps.toList) : ∀ (l : List ResultVar) (vs : List AV), resA P t h l = some vs →
    ∃ us, (l.mapM fun r : ResultVar => (match r with
      | .tmp t => pure (a.tmps.getD t undef)
      | .cell x t => do loadVar t (← asAddr (a.tmps.getD x undef)) : Sem Value)).run P w = .ok us w ∧ VRs ρ vs us
  | [], vs, hr => by simp [resA] at hr; subst hr; exact ⟨[], rfl, by simp [VRs]⟩
  | .tmp s :: l, vs, hr => by
    simp only [resA, Option.map_eq_some_iff] at hr
    obtain ⟨vs', h1, rfl⟩ := hr
    obtain ⟨us, h2, h3⟩ := run_results hI hV l vs' h1
    refine ⟨a.tmps.getD s undef :: us, ?_, ?_⟩
    · simp only [List.mapM_cons, Sem.run_bind, Sem.run_pure, Result.andThen, h2]
    · simp only [VRs]; exact ⟨by simpa [evalE, Act.eval] using VR_evalE hV (.tmp s), h3⟩
  | .cell x ty :: l, vs, hr => by
    simp only [resA] at hr
    split at hr
    case h_2 => cases hr
    rename_i b o hx
    split at hr
    case h_2 => cases hr
    rename_i blk hblk
    split at hr
    case h_2 => cases hr
    rename_i cs hcs
    simp only [Option.bind_eq_some_iff, Option.map_eq_some_iff] at hr
    obtain ⟨v, hv, vs', h1, rfl⟩ := hr
    obtain ⟨us, h2, h3⟩ := run_results hI hV l vs' h1
    have hp := VR_evalE hV (.tmp x)
    simp only [evalE, Act.eval] at hp
    rw [hx] at hp
    simp only [VR] at hp
    obtain ⟨cb, co, cc, hρ, hp⟩ := hp
    have hca := hI.sim.cells b blk _ hblk hρ
    rw [hcs] at hca
    obtain ⟨u, h4, h5⟩ := loadVar_lit (P := P) hv hca
    refine ⟨u :: us, ?_, by simp only [VRs]; exact ⟨h5, h3⟩⟩
    have h6 : (asAddr (a.tmps.getD x undef)).run P w = .ok ⟨cb, co + o, none⟩ w := by rw [hp]; rfl
    simp only at h4
    simp only [List.mapM_cons, Sem.run_bind, h6, Sem.run_pure, Result.andThen, h4, h2]
def okExit : Exit → Bool
  | .ret => true
  | .normal => true
  | _ => false
theorem Inv.other {Γ : Ctx} {ρ : Ren} {h : Heap} {w w' : World} (hI : Inv Γ ρ h w) (hsz : w.heap.size ≤ w'.heap.size) (hc : ∀ a, w'.cell? a = w.cell? a) (hcells : ∀ (i : Nat) cs e q, w.heap[i]? = some (.cells cs e q) → w'.heap[i]? = some (.cells cs e q))
    (hold : ∀ i, i < ρ.base.heap.size ∨ i < Γ.w0.heap.size → w'.heap[i]? = w.heap[i]?) (ho : w'.os = w.os) (ht : w'.tape = w.tape) (hu : w'.output = w.output) : Inv Γ ρ h w' := by
  have hs := hI.sim
  refine ⟨⟨hs.some_, fun b blk c hb hρ => (hs.cells b blk c hb hρ).of_cell fun _ o => hc _, fun b blk c hb hρ hso => Nat.lt_of_lt_of_le (hs.inside b blk c hb hρ hso) hsz, fun b blk c hb hρ hrw hso => ?_, hs.apart, hs.dom, Nat.le_trans hs.baseLe hsz, fun i hi => by rw [hold i (.inl hi)]; exact hs.old i hi, hs.above⟩,
    hI.agree, hI.sameBase, ho.trans hI.os, ht.trans hI.tape, hu.trans hI.output, Nat.le_trans hI.size hsz, fun i hi hn => by rw [hold i (.inr hi)]; exact hI.keep i hi hn, hI.fresh⟩
  obtain ⟨h1, cs, e, h2, h3⟩ := hs.own b blk c hb hρ hrw hso
  exact ⟨h1, cs, e, hcells _ _ _ _ h2, h3⟩
theorem cell_putObj {w : World} {D : Nat} {o o' : Obj} (h : w.heap[D]? = some o) (ho : ∀ cs e q, o ≠ .cells cs e q) (ho' : ∀ cs e q, o' ≠ .cells cs e q) (a : Addr) : (w.putObj D o').cell? a = w.cell? a := by
  unfold World.cell?
  have hlt : D < w.heap.size := (Array.getElem?_eq_some_iff.1 h).1
  by_cases hD : a.block = D
  · rw [hD, World.putObj_heap_same hlt, h]
    cases o with
    | cells cs e q => exact absurd rfl (ho cs e q)
    | _ =>
      cases o' with
      | cells cs e q => exact absurd rfl (ho' cs e q)
      | _ => rfl
  · rw [World.putObj_heap_other hD]
theorem Inv.putObj {Γ : Ctx} {ρ : Ren} {h : Heap} {w : World} (hI : Inv Γ ρ h w) {D : Nat} {o o' : Obj} (hD : w.heap[D]? = some o) (ho : ∀ cs e q, o ≠ .cells cs e q) (ho' : ∀ cs e q, o' ≠ .cells cs e q) (h1 : Γ.w0.heap.size ≤ D) (h2 : ρ.base.heap.size ≤ D) : Inv Γ ρ h (w.putObj D o') := by
  refine hI.other (by simp) (cell_putObj hD ho ho') (fun i cs e q hi => ?_) (fun i hi => World.putObj_heap_other (by omega)) rfl rfl rfl
  rw [World.putObj_heap_other (fun e' => ?_)]
  · exact hi
  · subst e'; rw [hD] at hi; injection hi with hi; exact absurd hi (ho _ _ _)
theorem leaves_marks {P : Program} {fn : Func} {tmps : Array Value} {R : Ending → World → Prop} {Γ : Ctx} {ρ : Ren} {h : Heap} (hR : ∀ w2, Inv Γ ρ h w2 → ∃ v, (results fn tmps).run P w2 = .ok v w2 ∧ R (.returned v) w2) :
    ∀ (ds : List Deferred) (w : World), Inv Γ ρ h w → MarksL Γ ds w → LeavesInM (frF none) 0 P fn tmps R ds .returning w
  | [], w, hI, _ => by
    show LeavesIn _ _ _ _ _ _ _ _ _
    exact hR w hI
  | d :: ds, w, hI, hm => by
    obtain ⟨⟨D, rfl, ⟨h1, h2⟩, h3, h4⟩, h5⟩ := hm
    refine ⟨by simp, .inl ⟨D, w.putObj D (.deferred none), rfl, run_takeDeferred h3, ?_⟩⟩
    refine leaves_marks hR ds _ (hI.putObj h3 (by simp) (by simp) h1 (by rw [hI.sameBase]; exact h2)) ?_
    have : ∀ (ds : List Deferred), (∀ d' ∈ ds, d' ≠ ({ target := .collected D, args := #[] } : Deferred)) → MarksL Γ ds w → MarksL Γ ds (w.putObj D (.deferred none)) := by
      intro ds
      induction ds with
      | nil => intro _ _; trivial
      | cons d ds ih =>
        intro hne hm
        obtain ⟨⟨D', e1, e2, e3, e4⟩, e5⟩ := hm
        refine ⟨⟨D', e1, e2, ?_, e4⟩, ih (fun d' hd' => hne d' (List.mem_cons_of_mem _ hd')) e5⟩
        rw [World.putObj_heap_other (fun e' => ?_)]
        · exact e3
        · subst e'; exact hne d (List.mem_cons_self ..) e1
    exact this ds h4 h5
theorem callsIn_of_runs {P : Program} {Y : Ctx → Prop} {f : FuncId} {fn : Func} {c : Code} (hf : P.funcs[f]? = some fn) (hb : fn.body = some c) {n0 : Nat} {t t' : List AV} {h h' : Heap} {e : Exit} (hr : Runs P Y n0 c t h e t' h') (he : okExit e = true)
    {Γ : Ctx} (hΓ : Γ.n0 = n0) (hY : Y Γ) {ρ : Ren} {w : World} (hI : Inv Γ ρ h w) {cargs : Array Value} (hV : VRs ρ t (cargs ++ Array.replicate (fn.ntmps - cargs.size) undef).toList) {R : Ending → World → Prop}
    (hR : ∀ ρ2 w2 (a2 : Act), Inv Γ ρ2 h' w2 → VRs ρ2 t' a2.tmps.toList → ∃ v, (results fn a2.tmps).run P w2 = .ok v w2 ∧ R (.returned v) w2) : CallsIn Fence.wide 0 P f cargs w R := by
  refine callsIn_of_wp_marks (F := frF none) hf hb trivial (wpIn_mono (hr.2 Γ hΓ hY none ρ w _ hI hV ⟨fun l hl => by (cases hl), fun l hl => by (cases hl), trivial⟩) fun e2 a2 w2 hp => ?_)
  obtain ⟨rfl, ρ2, g2, g3, g4⟩ := hp
  have key := leaves_marks (P := P) (fn := fn) (tmps := a2.tmps) (R := R) (fun w3 h3 => hR ρ2 w3 a2 h3 g3) a2.defers w2 g2 g4.2.2
  cases e2 with
  | ret => exact key
  | normal => exact key
  | _ => simp [okExit] at he
theorem calls_of_runs {P : Program} {Y : Ctx → Prop} {f : FuncId} {fn : Func} {c : Code} (hf : P.funcs[f]? = some fn) (hb : fn.body = some c) {n0 : Nat} {t t' : List AV} {h h' : Heap} {e : Exit} (hr : Runs P Y n0 c t h e t' h') (he : okExit e = true)
    {Γ : Ctx} (hΓ : Γ.n0 = n0) (hY : Y Γ) {ρ : Ren} {w : World} (hI : Inv Γ ρ h w) {cargs : Array Value} (hV : VRs ρ t (cargs ++ Array.replicate (fn.ntmps - cargs.size) undef).toList) {R : Ending → World → Prop}
    (hR : ∀ ρ2 w2 (a2 : Act), Inv Γ ρ2 h' w2 → VRs ρ2 t' a2.tmps.toList → ∃ v, (results fn a2.tmps).run P w2 = .ok v w2 ∧ R (.returned v) w2) : Calls P f cargs w R :=
  callsIn_wide.1 (callsIn_of_runs hf hb hr he hΓ hY hI hV hR)
end Go.Ab
namespace Go.Ab
mutual
def Sh.ents : (s : Sh) → s.T → List Ent
  | .int _, _ => []
  | .bool, _ => []
  | .str, _ => []
  | .st l, x => Sh.entss l x
  | .sl e, l => [.live { cells := .arr e l, rw := false }]
  | .rows e, l => [.live { cells := .arrs e l, rw := false }]
def Sh.entss : (l : List Sh) → Sh.Ts l → List Ent
  | [], _ => []
  | s :: l, x => Sh.ents s x.1 ++ Sh.entss l x.2
end
mutual
def Sh.ne : Sh → Nat
  | .int _ => 0
  | .bool => 0
  | .str => 0
  | .st l => Sh.nes l
  | .sl _ => 1
  | .rows _ => 1
def Sh.nes : List Sh → Nat
  | [] => 0
  | s :: l => Sh.ne s + Sh.nes l
end
mutual
def Sh.cells : (s : Sh) → s.T → Nat → List AV
  | .int k, x, _ => [.val (.int k x)]
  | .bool, b, _ => [.val (.bool b)]
  | .str, s, _ => [.val (.string s)]
  | .st l, x, n => Sh.cellss l x n
  | .sl _, l, n => [.slc n 0 l.length .low]
  | .rows _, l, n => [.slc n 0 l.length .low]
def Sh.cellss : (l : List Sh) → Sh.Ts l → Nat → List AV
  | [], _, _ => []
  | s :: l, x, n => Sh.cells s x.1 n ++ Sh.cellss l x.2 (n + Sh.ne s)
end
mutual
theorem ents_length : ∀ (s : Sh) (x : s.T), (s.ents x).length = s.ne
  | .int _, _ => rfl
  | .bool, _ => rfl
  | .str, _ => rfl
  | .st l, x => by simpa [Sh.ents, Sh.ne] using entss_length l x
  | .sl _, _ => rfl
  | .rows _, _ => rfl
theorem entss_length : ∀ (l : List Sh) (x : Sh.Ts l), (Sh.entss l x).length = Sh.nes l
  | [], _ => rfl
  | s :: l, x => by simp [Sh.entss, Sh.nes, ents_length s x.1, entss_length l x.2]
end
mutual
theorem ents_live : ∀ (s : Sh) (y : s.T) (e : Ent), e ∈ s.ents y → ∃ blk : Blk, e = .live blk ∧ blk.rw = false ∧ (∀ l, blk.cells ≠ .lit l)
  | .int _, _, e, h => by simp [Sh.ents] at h
  | .bool, _, e, h => by simp [Sh.ents] at h
  | .str, _, e, h => by simp [Sh.ents] at h
  | .st l, y, e, h => entss_live l y e (by simpa [Sh.ents] using h)
  | .sl _, y, e, h => by simp [Sh.ents] at h; subst h; exact ⟨_, rfl, rfl, by simp⟩
  | .rows _, y, e, h => by simp [Sh.ents] at h; subst h; exact ⟨_, rfl, rfl, by simp⟩
theorem entss_live : ∀ (l : List Sh) (y : Sh.Ts l) (e : Ent), e ∈ Sh.entss l y → ∃ blk : Blk, e = .live blk ∧ blk.rw = false ∧ (∀ l, blk.cells ≠ .lit l)
  | [], _, e, h => by simp [Sh.entss] at h
  | s :: l, y, e, h => by
    simp only [Sh.entss, List.mem_append] at h
    rcases h with h | h
    · exact ents_live s y.1 e h
    · exact entss_live l y.2 e h
end
def Sh.arg : (s : Sh) → s.T → Nat → AV
  | .int k, x, _ => .val (.int k x)
  | .bool, b, _ => .val (.bool b)
  | .str, s, _ => .val (.string s)
  | .st l, x, n => .agg (Sh.cellss l x n)
  | .sl _, l, n => .slc n 0 l.length .low
  | .rows _, l, n => .slc n 0 l.length .low
def Sh.args : (l : List Sh) → Sh.Ts l → Nat → List AV
  | [], _, _ => []
  | s :: l, x, n => s.arg x.1 n :: Sh.args l x.2 (n + s.ne)
end Go.Ab
namespace Go.Ab
def partsOf (s : Sh) (cp : Cap) (cs : Cells) (o n : Nat) : Option (List s.T × Bool) :=
  if s.flat = true ∧ 0 < s.w then
    match cs with
    | .arr s' l => match Sh.same s' s with
      | some h => (match cp with
        | .part => (if s.w = 1 then some (cut (h.down ▸ l) o n, decide (o + n ≤ l.length)) else match o with
          | 0 => some (cut (h.down ▸ l) 0 n, decide (n ≤ l.length))
          | _ + 1 => none)
        | _ => (match o with
          | 0 => some (h.down ▸ l, decide (n = l.length))
          | _ + 1 => (match eltAt s.w o 0 with
            | some k => some (cut (h.down ▸ l) k n, decide (k + n ≤ l.length))
            | none => none)))
      | none => none
    | .lit l => (match decN s n (l.drop o) with
      | some y => some (y, true)
      | none => none)
    | _ => none
  else none
theorem partsOf_ok {cp : Cap} {ρ : Ren} {w : World} {cb co : Nat} {cs : Cells} (hc : CellsAt ρ w cb co cs) {s : Sh} {o n : Nat} {y : List s.T} {c : Bool} (h : partsOf s cp cs o n = some (y, c)) (hb : c = true) :
    y.length = n ∧ s.flat = true ∧ 0 < s.w ∧ ∀ (j : Nat) (v : Value), (s.flatl y)[j]? = some v → w.cell? ⟨cb, co + o + j, none⟩ = some v := by
  unfold partsOf at h
  split at h
  case isFalse => cases h
  rename_i hfw
  obtain ⟨hf, hw⟩ := hfw
  split at h
  · rename_i s' l
    split at h
    case h_2 => cases h
    rename_i hs _
    obtain ⟨hs⟩ := hs
    subst hs
    split at h
    · split at h
      · rename_i hw1
        injection h with h; injection h with h1 h2; subst h1; subst h2
        have hb : o + n ≤ l.length := by simpa using hb
        refine ⟨cut_length hb, hf, hw, fun j v hj => ?_⟩
        have h3 := flatl_take_get _ _ hj
        rw [flatl_drop hf, List.getElem?_drop, hw1, Nat.mul_one] at h3
        rw [Nat.add_assoc]; exact hc _ _ h3
      · split at h
        case h_2 => cases h
        injection h with h; injection h with h1 h2; subst h1; subst h2
        have hb : 0 + n ≤ l.length := by simpa using hb
        refine ⟨cut_length hb, hf, hw, fun j v hj => ?_⟩
        have h3 := flatl_take_get _ _ hj
        rw [flatl_drop hf, List.getElem?_drop, Nat.zero_mul, Nat.zero_add] at h3
        rw [Nat.add_zero]; exact hc _ _ h3
    split at h
    · injection h with h; injection h with h1 h2; subst h1; subst h2
      have hb : n = l.length := by simpa using hb
      exact ⟨hb.symm, hf, hw, fun j v hj => by rw [Nat.add_zero]; exact hc j v hj⟩
    rename_i o'
    split at h
    case h_2 => cases h
    rename_i k hk
    injection h with h; injection h with h1 h2; subst h1; subst h2
    have hb : k + n ≤ l.length := by simpa using hb
    obtain ⟨hk1, _⟩ := eltAt_some hk
    refine ⟨cut_length hb, hf, hw, fun j v hj => ?_⟩
    have h3 := flatl_take_get _ _ hj
    rw [flatl_drop hf, List.getElem?_drop] at h3
    have := hc _ _ h3
    rw [show co + (o' + 1) + j = co + (k * s'.w + j) by omega]; exact this
  · rename_i l
    split at h
    case h_2 => cases h
    rename_i y' hy
    injection h with h; injection h with h1 h2; subst h1
    obtain ⟨h3, r, h4⟩ := decN_ok n _ _ hy
    refine ⟨h3, hf, hw, fun j v hj => ?_⟩
    have h5 : l[o + j]? = some (.val v) := by
      have : (l.drop o)[j]? = some (.val v) := by
        rw [h4, List.getElem?_append_left (by simp; exact (List.getElem?_eq_some_iff.1 hj).1)]
        simp [hj]
      rwa [List.getElem?_drop] at this
    obtain ⟨cv, h6, h7⟩ := hc _ _ h5
    simp only [VR] at h7; subst h7
    rw [Nat.add_assoc]; exact h6
  · cases h
theorem partsOf_len {cp : Cap} {s : Sh} {cs : Cells} {o n : Nat} {y : List s.T} {c : Bool} (h : partsOf s cp cs o n = some (y, c)) (hl : 0 < (s.flatl y).length) : 0 < cs.len := by
  unfold partsOf at h
  split at h
  case isFalse => cases h
  rename_i hfw
  split at h
  · rename_i s' l
    split at h
    case h_2 => cases h
    rename_i hs _
    obtain ⟨hs⟩ := hs
    subst hs
    have key : ∀ k, 0 < (s'.flatl (cut l k n)).length → 0 < (s'.flatl l).length := fun k hl => by
      have h3 : (s'.flatl (cut l k n)).length ≠ 0 := Nat.pos_iff_ne_zero.1 hl
      rw [flatl_length s' hfw.1] at h3
      have h4 : (cut l k n).length ≠ 0 := fun e => h3 (by rw [e]; simp)
      have h5 : l.length ≠ 0 := fun e => h4 (by simp [cut, List.length_eq_zero_iff.1 e])
      rw [flatl_length s' hfw.1]
      exact Nat.mul_pos (by omega) hfw.2
    split at h
    · split at h
      · injection h with h; injection h with h1 h2; subst h1; exact key _ hl
      · split at h
        case h_2 => cases h
        injection h with h; injection h with h1 h2; subst h1; exact key _ hl
    split at h
    · injection h with h; injection h with h1 h2; subst h1; exact hl
    · split at h
      case h_2 => cases h
      rename_i k hk
      injection h with h; injection h with h1 h2; subst h1
      have h3 : (s'.flatl (cut l k n)).length ≠ 0 := Nat.pos_iff_ne_zero.1 hl
      rw [flatl_length s' hfw.1] at h3
      have h4 : (cut l k n).length ≠ 0 := fun e => h3 (by rw [e]; simp)
      have h5 : l.length ≠ 0 := fun e => h4 (by simp [cut, List.length_eq_zero_iff.1 e])
      show 0 < (s'.flatl l).length
      rw [flatl_length s' hfw.1]
      exact Nat.mul_pos (by omega) hfw.2
  · rename_i l
    split at h
    case h_2 => cases h
    rename_i y' hy
    injection h with h; injection h with h1 h2; subst h1
    obtain ⟨h3, r, h4⟩ := decN_ok n _ _ hy
    have := congrArg List.length h4
    simp at this
    show 0 < l.length
    omega
  · cases h
def viewSl (H : Nat → Ent) (e : Sh) : AV → Option (List e.T × List Nat × Bool)
  | .slc b o n cp => match H b with
    | .live blk => (match partsOf e cp blk.cells o n with
      | some (y, c) => some (y, [b], c)
      | none => none)
    | _ => none
  | .val (.slice none 0 0) => some ([], [], true)
  | _ => none
def viewRw (H : Nat → Ent) (e : Sh) : AV → Option (List (List e.T) × List Nat × Bool)
  | .slc b o n _ => if e.flat = true ∧ e.w = 1 then (match H b with
    | .live blk => (match blk.cells with
      | .arrs e' l => (match Sh.same e' e with
        | some h => (match o with
          | 0 => some (h.down ▸ l, [b], decide (n = l.length))
          | o' + 1 => some (cut (h.down ▸ l) (o' + 1) n, [b], decide (o' + 1 + n ≤ l.length)))
        | none => none)
      | _ => none)
    | _ => none) else none
  | .val (.slice none 0 0) => if e.flat = true ∧ e.w = 1 then some ([], [], true) else none
  | _ => none
mutual
def viewC (H : Nat → Ent) : (s : Sh) → List AV → Option (s.T × List Nat × Bool × List AV)
  | .int k, cs => (match Sh.dec (.int k) cs with
    | some (y, r) => some (y, [], true, r)
    | none => none)
  | .bool, cs => (match Sh.dec .bool cs with
    | some (y, r) => some (y, [], true, r)
    | none => none)
  | .str, cs => (match Sh.dec .str cs with
    | some (y, r) => some (y, [], true, r)
    | none => none)
  | .st l, cs => viewCs H l cs
  | .sl e, a :: r => (match viewSl H e a with
    | some (y, b, c) => some (y, b, c, r)
    | none => none)
  | .rows e, a :: r => (match viewRw H e a with
    | some (y, b, c) => some (y, b, c, r)
    | none => none)
  | _, _ => none
def viewCs (H : Nat → Ent) : (l : List Sh) → List AV → Option (Sh.Ts l × List Nat × Bool × List AV)
  | [], cs => some ((), [], true, cs)
  | s :: l, cs => match viewC H s cs with
    | some (y, b, c, r) => (match viewCs H l r with
      | some (z, b', c', r') => some ((y, z), b ++ b', c && c', r')
      | none => none)
    | none => none
end
def From (ρ0 : Ren) (h : Heap) (Q : Nat → Prop) (cb : Nat) : Prop := ∃ b blk c, Q b ∧ h.get b = .live blk ∧ ρ0 b = some c ∧ blk.solid c ∧ c.1 = cb
def Views (w B : World) (F : Nat → Prop) (s : Sh) (y : s.T) (cs : List Value) : Prop :=
  ∃ c : List (Nat × Nat × Nat), c.length = s.ne ∧ ∀ (ρ : Ren) (next : Nat), ρ.base = B → (∀ (i : Nat) (d : Nat × Nat × Nat), c[i]? = some d → ρ (next + i) = some d) →
    VRs ρ (s.cells y next) cs ∧ ∀ (i : Nat) (blk : Blk), (s.ents y)[i]? = some (.live blk) → ∃ d : Nat × Nat × Nat, c[i]? = some d ∧ CellsAt ρ w d.1 d.2.1 blk.cells ∧ (0 < blk.cells.len → F d.1)
def ViewsL (w B : World) (F : Nat → Prop) (l : List Sh) (y : Sh.Ts l) (cs : List Value) : Prop :=
  ∃ c : List (Nat × Nat × Nat), c.length = Sh.nes l ∧ ∀ (ρ : Ren) (next : Nat), ρ.base = B → (∀ (i : Nat) (d : Nat × Nat × Nat), c[i]? = some d → ρ (next + i) = some d) →
    VRs ρ (Sh.cellss l y next) cs ∧ ∀ (i : Nat) (blk : Blk), (Sh.entss l y)[i]? = some (.live blk) → ∃ d : Nat × Nat × Nat, c[i]? = some d ∧ CellsAt ρ w d.1 d.2.1 blk.cells ∧ (0 < blk.cells.len → F d.1)
theorem ViewsL.nil {w B : World} {F : Nat → Prop} : ViewsL w B F [] () [] := ⟨[], rfl, fun ρ next _ _ => ⟨by simp [Sh.cellss, VRs], fun i blk h => by simp [Sh.entss] at h⟩⟩
theorem ViewsL.cons {w B : World} {F : Nat → Prop} {s : Sh} {l : List Sh} {y : s.T} {z : Sh.Ts l} {c1 c2 : List Value} (h1 : Views w B F s y c1) (h2 : ViewsL w B F l z c2) : ViewsL w B F (s :: l) (y, z) (c1 ++ c2) := by
  obtain ⟨d1, l1, f1⟩ := h1
  obtain ⟨d2, l2, f2⟩ := h2
  refine ⟨d1 ++ d2, by simp [Sh.nes, l1, l2], fun ρ next hb hρ => ?_⟩
  obtain ⟨a1, a2⟩ := f1 ρ next hb fun i d hi => hρ i d (by rw [List.getElem?_append_left]; exact hi; exact (List.getElem?_eq_some_iff.1 hi).1)
  obtain ⟨b1, b2⟩ := f2 ρ (next + s.ne) hb fun i d hi => by
    have := hρ (s.ne + i) d (by rw [List.getElem?_append_right (by omega), l1, Nat.add_sub_cancel_left]; exact hi)
    rw [Nat.add_assoc]; exact this
  refine ⟨by simp only [Sh.cellss]; exact a1.append b1, fun i blk hi => ?_⟩
  simp only [Sh.entss] at hi
  have el := ents_length s y
  by_cases hil : i < s.ne
  · rw [List.getElem?_append_left (by omega)] at hi
    obtain ⟨d, h3, h4⟩ := a2 i blk hi
    exact ⟨d, by rw [List.getElem?_append_left (by omega)]; exact h3, h4⟩
  · rw [List.getElem?_append_right (by omega), el] at hi
    obtain ⟨d, h3, h4⟩ := b2 (i - s.ne) blk hi
    exact ⟨d, by rw [List.getElem?_append_right (by omega), l1]; exact h3, h4⟩
section
variable {ρ0 : Ren} {h : Heap} {w : World} {H : Nat → Ent} {Q : Nat → Prop}
theorem viewSl_ok (hs : Sim ρ0 h w) {e : Sh} {a : AV} {cv : Value} (hv : VR ρ0 a cv) {y : List e.T} {bs : List Nat} {c : Bool} (hvw : viewSl H e a = some (y, bs, c)) (hH : ∀ b ∈ bs, h.get b = H b) (hQ : ∀ b ∈ bs, Q b) (hc : c = true) :
    (∃ b o c', cv = .slice (some ⟨b, o, none⟩) y.length c' ∧ y.length ≤ c' ∧ (∀ (j : Nat) (v : Value), (e.flatl y)[j]? = some v → w.cell? ⟨b, o + j, none⟩ = some v) ∧ (0 < (e.flatl y).length → From ρ0 h Q b)) ∨ (y = [] ∧ ∃ a, cv = .slice a 0 0) := by
  unfold viewSl at hvw
  split at hvw
  · rename_i b o n cp
    split at hvw
    case h_2 => cases hvw
    rename_i blk hblk
    split at hvw
    case h_2 => cases hvw
    rename_i y' c' hp
    injection hvw with hvw; injection hvw with e1 e2; injection e2 with e2 e3
    subst e1; subst e2; subst e3
    have hb : h.get b = .live blk := by rw [hH b (by simp)]; exact hblk
    rcases hv.slc_cases with ⟨cb, co, cc, c', h1, h2, h3⟩ | ⟨h1, a, h2⟩
    · obtain ⟨k1, _, _, k2⟩ := partsOf_ok (hs.cells b blk _ hb h1) hp hc
      refine .inl ⟨cb, co + o, c', by rw [k1]; exact h3, by omega, k2, fun hl => ⟨b, blk, _, hQ b (by simp), hb, h1, .inl (partsOf_len hp hl), rfl⟩⟩
    · obtain ⟨d, hd⟩ := hs.some_ b blk hb
      obtain ⟨k1, _, _, k2⟩ := partsOf_ok (hs.cells b blk _ hb hd) hp hc
      exact .inr ⟨List.length_eq_zero_iff.1 (by omega), a, h2⟩
  · simp only [VR] at hv
    injection hvw with hvw; injection hvw with e1 e2; subst e1
    exact .inr ⟨rfl, none, hv⟩
  · cases hvw
theorem Views.flat0 {s : Sh} {cs : List Value} {y : s.T} (hn : s.ne = 0) (hv : ∀ (ρ : Ren) next, VRs ρ (s.cells y next) cs) : Views w ρ0.base (From ρ0 h Q) s y cs :=
  ⟨[], hn.symm, fun ρ next _ _ => ⟨hv ρ next, fun i blk hi => by
    have := ents_length s y
    rw [hn] at this
    rw [List.length_eq_zero_iff.1 this] at hi
    simp at hi⟩⟩
theorem VRs.split {ρ : Ren} : ∀ (as bs : List AV) (vs : List Value), VRs ρ (as ++ bs) vs → ∃ v1 v2, vs = v1 ++ v2 ∧ VRs ρ as v1 ∧ VRs ρ bs v2
  | [], bs, vs, h => ⟨[], vs, rfl, by simp [VRs], h⟩
  | a :: as, bs, [], h => by simp [VRs] at h
  | a :: as, bs, v :: vs, h => by
    simp only [List.cons_append, VRs] at h
    obtain ⟨v1, v2, rfl, h1, h2⟩ := VRs.split as bs vs h.2
    exact ⟨v :: v1, v2, rfl, by simp only [VRs]; exact ⟨h.1, h1⟩, h2⟩
theorem enc_view {s : Sh} {y : s.T} {vs : List Value} (hv : VRs ρ0 ((s.enc y).map .val) vs) : vs = s.enc y := by
  have key : ∀ (l u : List Value), VRs ρ0 (l.map .val) u → u = l := by
    intro l
    induction l with
    | nil => intro u h; cases u with
      | nil => rfl
      | cons => simp [VRs] at h
    | cons a l ih => intro u h; cases u with
      | nil => simp [VRs] at h
      | cons b u => simp only [List.map_cons, VRs, VR] at h; rw [h.1, ih u h.2]
  exact key _ _ hv
mutual
theorem viewC_ok (hs : Sim ρ0 h w) : ∀ (s : Sh) (cs : List AV) (cvs : List Value), VRs ρ0 cs cvs → ∀ (y : s.T) (bs : List Nat) (c : Bool) (rest : List AV), viewC H s cs = some (y, bs, c, rest) → (∀ b ∈ bs, h.get b = H b) → (∀ b ∈ bs, Q b) → c = true →
    ∃ v1 v2, cvs = v1 ++ v2 ∧ VRs ρ0 rest v2 ∧ Views w ρ0.base (From ρ0 h Q) s y v1
  | .int k, cs, cvs, hv, y, bs, c, rest, hvw, hH, hQ, hc => by
    simp only [viewC] at hvw
    split at hvw
    case h_2 => cases hvw
    rename_i y' r hd
    injection hvw with hvw; injection hvw with e1 e2; injection e2 with e2 e3; injection e3 with e3 e4
    subst e1; subst e4
    obtain ⟨v1, v2, g1, g2, g3⟩ := VRs.split _ _ _ ((dec_ok _ _ _ _ hd).2 ▸ hv)
    exact ⟨v1, v2, g1, g3, .flat0 rfl fun ρ next => by rw [enc_view g2]; simp [Sh.cells, Sh.enc, VRs, VR]⟩
  | .bool, cs, cvs, hv, y, bs, c, rest, hvw, hH, hQ, hc => by
    simp only [viewC] at hvw
    split at hvw
    case h_2 => cases hvw
    rename_i y' r hd
    injection hvw with hvw; injection hvw with e1 e2; injection e2 with e2 e3; injection e3 with e3 e4
    subst e1; subst e4
    obtain ⟨v1, v2, g1, g2, g3⟩ := VRs.split _ _ _ ((dec_ok _ _ _ _ hd).2 ▸ hv)
    exact ⟨v1, v2, g1, g3, .flat0 rfl fun ρ next => by rw [enc_view g2]; simp [Sh.cells, Sh.enc, VRs, VR]⟩
  | .str, cs, cvs, hv, y, bs, c, rest, hvw, hH, hQ, hc => by
    simp only [viewC] at hvw
    split at hvw
    case h_2 => cases hvw
    rename_i y' r hd
    injection hvw with hvw; injection hvw with e1 e2; injection e2 with e2 e3; injection e3 with e3 e4
    subst e1; subst e4
    obtain ⟨v1, v2, g1, g2, g3⟩ := VRs.split _ _ _ ((dec_ok _ _ _ _ hd).2 ▸ hv)
    exact ⟨v1, v2, g1, g3, .flat0 rfl fun ρ next => by rw [enc_view g2]; simp [Sh.cells, Sh.enc, VRs, VR]⟩
  | .st l, cs, cvs, hv, y, bs, c, rest, hvw, hH, hQ, hc => by
    simp only [viewC] at hvw
    obtain ⟨v1, v2, g1, g2, g3⟩ := viewCs_ok hs l cs cvs hv y bs c rest hvw hH hQ hc
    exact ⟨v1, v2, g1, g2, g3⟩
  | .sl e, [], cvs, hv, y, bs, c, rest, hvw, hH, hQ, hc => by simp [viewC] at hvw
  | .sl e, a :: r, [], hv, y, bs, c, rest, hvw, hH, hQ, hc => by simp [VRs] at hv
  | .sl e, a :: r, cv :: cvs, hv, y, bs, c, rest, hvw, hH, hQ, hc => by
    simp only [VRs] at hv
    simp only [viewC] at hvw
    split at hvw
    case h_2 => cases hvw
    rename_i y' b' c' hsl
    injection hvw with hvw; injection hvw with e1 e2; injection e2 with e2 e3; injection e3 with e3 e4
    subst e1; subst e2; subst e3; subst e4
    refine ⟨[cv], cvs, rfl, hv.2, ?_⟩
    rcases viewSl_ok hs hv.1 hsl hH hQ hc with ⟨b, o, c', h2, h3, h4, h5⟩ | ⟨h2, a, h3⟩
    · refine ⟨[(b, o, 0)], rfl, fun ρ next hb hρ => ⟨?_, fun i blk hi => ?_⟩⟩
      · simp only [Sh.cells, VRs, VR]
        exact ⟨.inl ⟨b, o, 0, c', by simpa using hρ 0 _ rfl, h3, h2⟩, trivial⟩
      · simp only [Sh.ents] at hi
        cases i with
        | succ i => simp at hi
        | zero =>
          simp at hi; subst hi
          exact ⟨(b, o, 0), rfl, h4, h5⟩
    · subst h2
      refine ⟨[(0, 0, 0)], rfl, fun ρ next hb hρ => ⟨?_, fun i blk hi => ?_⟩⟩
      · simp only [Sh.cells, VRs, VR]
        exact ⟨.inr ⟨rfl, a, h3⟩, trivial⟩
      · simp only [Sh.ents] at hi
        cases i with
        | succ i => simp at hi
        | zero =>
          simp at hi; subst hi
          exact ⟨(0, 0, 0), rfl, fun j v hj => by simp [Sh.flatl] at hj, fun hl => by simp [Cells.len, Sh.flatl] at hl⟩
  | .rows e, [], cvs, hv, y, bs, c, rest, hvw, hH, hQ, hc => by simp [viewC] at hvw
  | .rows e, a :: r, [], hv, y, bs, c, rest, hvw, hH, hQ, hc => by simp [VRs] at hv
  | .rows e, a :: r, cv :: cvs, hv, y, bs, c, rest, hvw, hH, hQ, hc => by
    simp only [VRs] at hv
    simp only [viewC] at hvw
    split at hvw
    case h_2 => cases hvw
    rename_i y' b' c' hrw
    injection hvw with hvw; injection hvw with e1 e2; injection e2 with e2 e3; injection e3 with e3 e4
    subst e1; subst e2; subst e3; subst e4
    refine ⟨[cv], cvs, rfl, hv.2, ?_⟩
    have nilcase : y' = [] → (∃ a, cv = .slice a 0 0) → Views w ρ0.base (From ρ0 h Q) (.rows e) y' [cv] := by
      rintro rfl ⟨a, h3⟩
      refine ⟨[(0, 0, 0)], rfl, fun ρ next hb hρ => ⟨?_, fun i blk hi => ?_⟩⟩
      · simp only [Sh.cells, VRs, VR]
        exact ⟨.inr ⟨rfl, a, h3⟩, trivial⟩
      · simp only [Sh.ents] at hi
        cases i with
        | succ i => simp at hi
        | zero =>
          simp at hi; subst hi
          exact ⟨(0, 0, 0), rfl, fun j v hj => by simp at hj, fun hl => by simp [Cells.len] at hl⟩
    have somecase : ∀ cb o c', cv = .slice (some ⟨cb, o, none⟩) y'.length c' → y'.length ≤ c' → (∀ (j : Nat) (r : List e.T), y'[j]? = some r → ∃ cv, w.cell? ⟨cb, o + j, none⟩ = some cv ∧ RowIn ρ0.base cv (e.flatl r)) → (0 < y'.length → From ρ0 h Q cb) → Views w ρ0.base (From ρ0 h Q) (.rows e) y' [cv] := by
      intro cb o c' h2 h3 h4 h9
      refine ⟨[(cb, o, 0)], rfl, fun ρ next hb hρ => ⟨?_, fun i blk hi => ?_⟩⟩
      · simp only [Sh.cells, VRs, VR]
        exact ⟨.inl ⟨cb, o, 0, c', by simpa using hρ 0 _ rfl, h3, h2⟩, trivial⟩
      · simp only [Sh.ents] at hi
        cases i with
        | succ i => simp at hi
        | zero =>
          simp at hi; subst hi
          refine ⟨(cb, o, 0), rfl, fun j r hj => ?_, h9⟩
          obtain ⟨u, h5, h6⟩ := h4 j r hj
          exact ⟨u, h5, by rw [hb]; exact h6⟩
    unfold viewRw at hrw
    split at hrw
    · rename_i b o n cp
      split at hrw
      case isFalse => cases hrw
      rename_i hfw
      split at hrw
      case h_2 => cases hrw
      rename_i blk hblk
      split at hrw
      · rename_i e' l hcells
        split at hrw
        case h_2 => cases hrw
        rename_i hse _
        obtain ⟨hse⟩ := hse
        subst hse
        have two : ∃ y0, (o = 0 ∧ y0 = l ∧ n = l.length ∧ y' = y0 ∧ b' = [b]) ∨ (o + n ≤ l.length ∧ y' = cut l o n ∧ b' = [b]) := by
          split at hrw
          · injection hrw with hrw; injection hrw with e1 e2; injection e2 with e2 e3
            exact ⟨l, .inl ⟨rfl, rfl, by subst e3; simpa using hc, e1.symm, e2.symm⟩⟩
          · injection hrw with hrw; injection hrw with e1 e2; injection e2 with e2 e3
            exact ⟨l, .inr ⟨by subst e3; simpa using hc, e1.symm, e2.symm⟩⟩
        obtain ⟨hc, rfl, rfl⟩ : o + n ≤ l.length ∧ y' = cut l o n ∧ b' = [b] := by
          obtain ⟨y0, ⟨k1, k2, k3, k4, k5⟩ | k⟩ := two
          · subst k1; subst k2; subst k3; exact ⟨by omega, by rw [k4, cut_all], k5⟩
          · exact k
        have hb : h.get b = .live blk := by rw [hH b (by simp)]; exact hblk
        have hlen := cut_length hc
        rcases hv.1.slc_cases with ⟨cb, co, cc, c', h1, h2, h3⟩ | ⟨h1, a, h2⟩
        · refine somecase cb (co + o) c' (by rw [hlen]; exact h3) (by rw [hlen]; exact h2) (fun j r hj => ?_) fun hl => ⟨b, blk, _, hQ b (by simp), hb, h1, .inl (by rw [hcells]; show 0 < l.length; have := hl; rw [hlen] at this; omega), rfl⟩
          have hca := hs.cells b blk _ hb h1
          rw [hcells] at hca
          have hj2 : l[o + j]? = some r := by
            simp only [cut, List.getElem?_take] at hj
            split at hj
            · rwa [List.getElem?_drop] at hj
            · cases hj
          obtain ⟨u, h5, h6⟩ := hca _ r hj2
          exact ⟨u, by rw [Nat.add_assoc]; exact h5, h6⟩
        · exact nilcase (List.length_eq_zero_iff.1 (by rw [hlen]; exact h1)) ⟨a, h2⟩
      · cases hrw
    · simp only [VR] at hv
      split at hrw
      case isFalse => cases hrw
      injection hrw with hrw; injection hrw with e1 e2; subst e1
      exact nilcase rfl ⟨none, hv.1⟩
    · cases hrw
theorem viewCs_ok (hs : Sim ρ0 h w) : ∀ (l : List Sh) (cs : List AV) (cvs : List Value), VRs ρ0 cs cvs → ∀ (y : Sh.Ts l) (bs : List Nat) (c : Bool) (rest : List AV), viewCs H l cs = some (y, bs, c, rest) → (∀ b ∈ bs, h.get b = H b) → (∀ b ∈ bs, Q b) → c = true →
    ∃ v1 v2, cvs = v1 ++ v2 ∧ VRs ρ0 rest v2 ∧ ViewsL w ρ0.base (From ρ0 h Q) l y v1
  | [], cs, cvs, hv, y, bs, c, rest, hvw, hH, hQ, hc => by
    simp only [viewCs] at hvw
    injection hvw with hvw; injection hvw with e1 e2; injection e2 with e2 e3; injection e3 with e3 e4
    subst e4
    exact ⟨[], cvs, rfl, hv, .nil⟩
  | s :: l, cs, cvs, hv, y, bs, c, rest, hvw, hH, hQ, hc => by
    simp only [viewCs] at hvw
    split at hvw
    case h_2 => cases hvw
    rename_i y0 b0 c0 r0 h0
    split at hvw
    case h_2 => cases hvw
    rename_i z b1 c1 r1 h1
    injection hvw with hvw; injection hvw with e1 e2; injection e2 with e2 e3; injection e3 with e3 e4
    subst e1; subst e2; subst e3; subst e4
    simp only [Bool.and_eq_true] at hc
    obtain ⟨v1, v2, rfl, g2, g3⟩ := viewC_ok hs s cs cvs hv y0 b0 c0 r0 h0 (fun b hb => hH b (List.mem_append.2 (.inl hb))) (fun b hb => hQ b (List.mem_append.2 (.inl hb))) hc.1
    obtain ⟨v3, v4, rfl, g4, g5⟩ := viewCs_ok hs l r0 v2 g2 z b1 c1 r1 h1 (fun b hb => hH b (List.mem_append.2 (.inr hb))) (fun b hb => hQ b (List.mem_append.2 (.inr hb))) hc.2
    exact ⟨v1 ++ v3, v4, by simp, g4, ViewsL.cons g3 g5⟩
end
end
end Go.Ab
namespace Go.Ab
def argCells : Sh → AV → Option (List AV)
  | .st _, .agg cs => some cs
  | .st _, .val (.agg cs) => some (cs.toList.map .val)
  | .st _, _ => none
  | _, a => some [a]
def viewA (H : Nat → Ent) (s : Sh) (a : AV) : Option (s.T × List Nat × Bool) :=
  match argCells s a with
  | some cs => (match viewC H s cs with
    | some (y, b, c, []) => some (y, b, c)
    | _ => none)
  | none => none
def viewArgs (H : Nat → Ent) : (l : List Sh) → List AV → Option (Sh.Ts l × List Nat × Bool)
  | [], [] => some ((), [], true)
  | s :: l, a :: as => (match viewA H s a with
    | some (y, b, c) => (match viewArgs H l as with
      | some (z, b', c') => some ((y, z), b ++ b', c && c')
      | none => none)
    | none => none)
  | _, _ => none
def ViewsA (w B : World) (F : Nat → Prop) (l : List Sh) (y : Sh.Ts l) (vs : List Value) : Prop :=
  ∃ c : List (Nat × Nat × Nat), c.length = Sh.nes l ∧ ∀ (ρ : Ren) (next : Nat), ρ.base = B → (∀ (i : Nat) (d : Nat × Nat × Nat), c[i]? = some d → ρ (next + i) = some d) →
    VRs ρ (Sh.args l y next) vs ∧ ∀ (i : Nat) (blk : Blk), (Sh.entss l y)[i]? = some (.live blk) → ∃ d : Nat × Nat × Nat, c[i]? = some d ∧ CellsAt ρ w d.1 d.2.1 blk.cells ∧ (0 < blk.cells.len → F d.1)
theorem viewA_ok {ρ0 : Ren} {h : Heap} {w : World} {H : Nat → Ent} {Q : Nat → Prop} (hs : Sim ρ0 h w) {s : Sh} {a : AV} {v : Value} (hv : VR ρ0 a v) {y : s.T} {bs : List Nat} {c : Bool} (hvw : viewA H s a = some (y, bs, c)) (hH : ∀ b ∈ bs, h.get b = H b) (hQ : ∀ b ∈ bs, Q b) (hc : c = true) :
    ∃ cs, Views w ρ0.base (From ρ0 h Q) s y cs ∧ ∀ (ρ : Ren) next, VRs ρ (s.cells y next) cs → VR ρ (s.arg y next) v := by
  unfold viewA at hvw
  split at hvw
  case h_2 => cases hvw
  rename_i cs hcs
  split at hvw
  case h_2 => cases hvw
  rename_i y' b' c' hvc
  injection hvw with hvw; injection hvw with e1 e2; injection e2 with e2 e3
  subst e1; subst e2; subst e3
  have one : argCells s a = some [a] → (∀ next, s.cells y' next = [s.arg y' next]) → ∃ cs, Views w ρ0.base (From ρ0 h Q) s y' cs ∧ ∀ (ρ : Ren) next, VRs ρ (s.cells y' next) cs → VR ρ (s.arg y' next) v := by
    intro h1 h2
    rw [h1] at hcs; injection hcs with hcs; subst hcs
    obtain ⟨v1, v2, g1, g2, g3⟩ := viewC_ok hs s [a] [v] (by simp only [VRs]; exact ⟨hv, trivial⟩) y' b' c' [] hvc hH hQ hc
    have : v2 = [] := by
      cases v2 with
      | nil => rfl
      | cons => simp [VRs] at g2
    subst this
    simp at g1; subst g1
    refine ⟨[v], g3, fun ρ next hr => ?_⟩
    rw [h2] at hr
    simpa [VRs] using hr
  cases s with
  | int k => exact one rfl fun _ => rfl
  | bool => exact one rfl fun _ => rfl
  | str => exact one rfl fun _ => rfl
  | sl e => exact one rfl fun _ => rfl
  | rows e => exact one rfl fun _ => rfl
  | st l =>
    have hag : ∃ us, v = .agg us ∧ VRs ρ0 cs us.toList := by
      unfold argCells at hcs
      split at hcs
      · rename_i e; injection e with e; subst e
        injection hcs with hcs; subst hcs
        simp only [VR] at hv; exact hv
      · rename_i e; injection e with e; subst e
        injection hcs with hcs; subst hcs
        simp only [VR] at hv; exact ⟨_, hv, VRs.vals _⟩
      · cases hcs
      · exfalso; simp_all
    obtain ⟨us, hu, hr⟩ := hag
    obtain ⟨v1, v2, g1, g2, g3⟩ := viewC_ok hs (.st l) cs us.toList hr y' b' c' [] hvc hH hQ hc
    have : v2 = [] := by
      cases v2 with
      | nil => rfl
      | cons => simp [VRs] at g2
    subst this
    simp at g1
    refine ⟨v1, g3, fun ρ next hr => ?_⟩
    simp only [Sh.arg, VR]
    exact ⟨us, hu, by rw [g1]; simpa [Sh.cells] using hr⟩
theorem viewArgs_ok {ρ0 : Ren} {h : Heap} {w : World} {H : Nat → Ent} {Q : Nat → Prop} (hs : Sim ρ0 h w) : ∀ (l : List Sh) (as : List AV) (vs : List Value), VRs ρ0 as vs → ∀ (y : Sh.Ts l) (bs : List Nat) (c : Bool), viewArgs H l as = some (y, bs, c) → (∀ b ∈ bs, h.get b = H b) → (∀ b ∈ bs, Q b) → c = true → ViewsA w ρ0.base (From ρ0 h Q) l y vs
  | [], [], [], _, y, bs, c, _, _, _, _ => ⟨[], rfl, fun ρ next _ _ => ⟨by simp [Sh.args, VRs], fun i blk h => by simp [Sh.entss] at h⟩⟩
  | [], [], _ :: _, hv, _, _, _, _, _, _, _ => by simp [VRs] at hv
  | [], _ :: _, _, _, _, _, _, h, _, _, _ => by simp [viewArgs] at h
  | _ :: _, [], _, _, _, _, _, h, _, _, _ => by simp [viewArgs] at h
  | _ :: _, _ :: _, [], hv, _, _, _, _, _, _, _ => by simp [VRs] at hv
  | s :: l, a :: as, v :: vs, hv, y, bs, c, hvw, hH, hQ, hc => by
    simp only [VRs] at hv
    simp only [viewArgs] at hvw
    split at hvw
    case h_2 => cases hvw
    rename_i y0 b0 c0 h0
    split at hvw
    case h_2 => cases hvw
    rename_i z b1 c1 h1
    injection hvw with hvw; injection hvw with e1 e2; injection e2 with e2 e3
    subst e1; subst e2; subst e3
    simp only [Bool.and_eq_true] at hc
    obtain ⟨cs, ⟨d1, l1, f1⟩, harg⟩ := viewA_ok hs hv.1 h0 (fun b hb => hH b (List.mem_append.2 (.inl hb))) (fun b hb => hQ b (List.mem_append.2 (.inl hb))) hc.1
    obtain ⟨d2, l2, f2⟩ := viewArgs_ok hs l as vs hv.2 z b1 c1 h1 (fun b hb => hH b (List.mem_append.2 (.inr hb))) (fun b hb => hQ b (List.mem_append.2 (.inr hb))) hc.2
    refine ⟨d1 ++ d2, by simp [Sh.nes, l1, l2], fun ρ next hb hρ => ?_⟩
    obtain ⟨a1, a2⟩ := f1 ρ next hb fun i d hi => hρ i d (by rw [List.getElem?_append_left]; exact hi; exact (List.getElem?_eq_some_iff.1 hi).1)
    obtain ⟨b1, b2⟩ := f2 ρ (next + s.ne) hb fun i d hi => by
      have := hρ (s.ne + i) d (by rw [List.getElem?_append_right (by omega), l1, Nat.add_sub_cancel_left]; exact hi)
      rw [Nat.add_assoc]; exact this
    refine ⟨by simp only [Sh.args, VRs]; exact ⟨harg ρ next a1, b1⟩, fun i blk hi => ?_⟩
    simp only [Sh.entss] at hi
    have el := ents_length s y0
    by_cases hil : i < s.ne
    · rw [List.getElem?_append_left (by omega)] at hi
      obtain ⟨d, h3, h4⟩ := a2 i blk hi
      exact ⟨d, by rw [List.getElem?_append_left (by omega)]; exact h3, h4⟩
    · rw [List.getElem?_append_right (by omega), el] at hi
      obtain ⟨d, h3, h4⟩ := b2 (i - s.ne) blk hi
      exact ⟨d, by rw [List.getElem?_append_right (by omega), l1]; exact h3, h4⟩
theorem inside_of18 {ρ : Ren} {W : World} {b o : Nat} {cs : Cells} (h : CellsAt ρ W b o cs) (hl : 0 < cs.len) : b < W.heap.size := by
  have key : ∀ off cv, W.cell? ⟨b, off, none⟩ = some cv → b < W.heap.size := fun off cv h => by
    rcases Nat.lt_or_ge b W.heap.size with h' | h'
    · exact h'
    · simp [World.cell?, Array.getElem?_eq_none h'] at h
  cases cs with
  | lit l => obtain ⟨cv, h1, _⟩ := h 0 l[0] (List.getElem?_eq_getElem hl); exact key _ cv h1
  | sym l => exact key _ _ (h 0 l[0] (List.getElem?_eq_getElem hl))
  | rows l => obtain ⟨cv, h1, _⟩ := h 0 l[0] (List.getElem?_eq_getElem hl); exact key _ cv h1
  | arr s l => exact key _ _ (h 0 (s.flatl l)[0] (List.getElem?_eq_getElem hl))
  | arrs s l => obtain ⟨cv, h1, _⟩ := h 0 l[0] (List.getElem?_eq_getElem hl); exact key _ cv h1
theorem get_entss {l : List Sh} {y : Sh.Ts l} {b : Nat} {blk : Blk} (hb : Heap.get (Sh.entss l y) b = .live blk) : (Sh.entss l y)[b]? = some (.live blk) := by
  simp only [Heap.get, List.getD_eq_getElem?_getD] at hb
  cases hq : (Sh.entss l y)[b]? with
  | none => rw [hq] at hb; cases hb
  | some e => rw [hq] at hb; simp at hb; rw [hb]
theorem entss_norw {l : List Sh} {y : Sh.Ts l} {b : Nat} {blk : Blk} (hb : Heap.get (Sh.entss l y) b = .live blk) : blk.rw = false := by
  obtain ⟨blk', h3, h4, _⟩ := entss_live l y _ (List.mem_of_getElem? (get_entss hb))
  injection h3 with h3; subst h3; exact h4
theorem sim_views {W B : World} (hB : B.heap.size ≤ W.heap.size) (hO : ∀ i, i < B.heap.size → W.heap[i]? = B.heap[i]?) {l : List Sh} {vs : List Value} {y : Sh.Ts l} {F : Nat → Prop} (h : ViewsA W B F l y vs) : ∃ ρ : Ren, ρ.base = B ∧ VRs ρ (Sh.args l y 0) vs ∧ Sim ρ (Sh.entss l y) W ∧ ∀ b blk d, Heap.get (Sh.entss l y) b = .live blk → ρ b = some d → 0 < blk.cells.len → F d.1 := by
  obtain ⟨c, hc, hf⟩ := h
  have hel := entss_length l y
  obtain ⟨h1, h2⟩ := hf ⟨fun b => c[b]?, B⟩ 0 rfl (fun i d hi => by simpa using hi)
  refine ⟨_, rfl, h1, ?_, fun b blk d hb hd hl => ?_⟩
  rotate_left
  · obtain ⟨d', h3, _, h5⟩ := h2 b blk (get_entss hb)
    have : some d' = some d := h3.symm.trans hd
    injection this with this; subst this; exact h5 hl
  have norw : ∀ b blk, Heap.get (Sh.entss l y) b = .live blk → blk.rw = true → False := fun b blk hb hr => by
    rw [entss_norw hb] at hr; cases hr
  refine ⟨fun b blk hb => ?_, fun b blk c' hb hc' => ?_, fun b blk c' hb hc' hs => ?_, fun b blk c' hb hc' hr => (norw b blk hb hr).elim, fun b b' blk blk' c' d' hb hb' hne hc' hd' hr => (norw b blk hb hr).elim, fun b hb => ?_, hB, hO, fun b blk c' hb hc' hr => (norw b blk hb hr).elim⟩
  · obtain ⟨d, h3, _⟩ := h2 b blk (get_entss hb); exact ⟨d, h3⟩
  · obtain ⟨d, h3, h4, _⟩ := h2 b blk (get_entss hb)
    have : some d = some c' := h3.symm.trans hc'
    injection this with this; subst this; exact h4
  · obtain ⟨d, h3, h4, _⟩ := h2 b blk (get_entss hb)
    have : some d = some c' := h3.symm.trans hc'
    injection this with this; subst this
    refine inside_of18 h4 ?_
    rcases hs with hs | hs
    · exact hs
    · exact (norw b blk hb hs.1).elim
  · show c[b]? = none
    have hb' : Heap.get (Sh.entss l y) b = .free := hb
    simp only [Heap.get, List.getD_eq_getElem?_getD] at hb'
    cases hq : (Sh.entss l y)[b]? with
    | none =>
      have : (Sh.entss l y).length ≤ b := by simpa using hq
      simp; omega
    | some e =>
      obtain ⟨blk, h3, _⟩ := entss_live l y e (List.mem_of_getElem? hq)
      rw [hq, h3] at hb'; simp at hb'
def wbNew : Nat → List Ent → List (Nat × Ent)
  | _, [] => []
  | k, e :: es => (k, e) :: wbNew (k + 1) es
theorem get_wbNew : ∀ (es : List Ent) (new : Nat) (h : Heap) (x : Nat), (h.upds (wbNew new es)).get x = if new ≤ x ∧ x < new + es.length then es.getD (x - new) .free else h.get x
  | [], new, h, x => by
    simp only [wbNew, Heap.upds, List.length_nil]
    rw [if_neg (by omega)]
  | e :: es, new, h, x => by
    simp only [wbNew, Heap.upds]
    rw [get_wbNew es (new + 1) _ x]
    by_cases h1 : new + 1 ≤ x ∧ x < new + 1 + es.length
    · rw [if_pos h1, if_pos (by simp; omega)]
      rw [show x - new = (x - (new + 1)) + 1 by omega]
      simp
    · rw [if_neg h1, Heap.get_upd]
      by_cases h2 : x = new
      · subst h2
        rw [if_pos rfl, if_pos (by simp)]
        simp
      · rw [if_neg h2, if_neg (by simp; omega)]
def AV.isVal : AV → Bool
  | .val _ => true
  | _ => false
def Ent.own : Ent → Bool
  | .live blk => blk.rw && (match blk.cells with
    | .arr _ _ => true
    | .lit l => l.all AV.isVal
    | _ => false)
  | _ => false
theorem after_pure {Γ : Ctx} {ρ : Ren} {h : Heap} {w : World} (hI : Inv Γ ρ h w) {hg : Heap} (hgn : ∀ b blk, hg.get b = .live blk → blk.rw = false) {ρg ρg' : Ren} {es : List Ent} (hes : es.all Ent.own = true) {w' : World} (hJ : Inv ⟨hg.length, ρg, hg, w⟩ ρg' (hg ++ es) w')
    {new : Nat} (hn : Γ.n0 ≤ new) (hfree : ∀ x, new ≤ x → x < new + es.length → h.get x = .free) :
    ∃ ρ', ρ.le ρ' ∧ (∀ k, k < es.length → ρ' (new + k) = ρg' (hg.length + k)) ∧ Inv Γ ρ' (h.upds (wbNew new es)) w' := by
  let ρ' : Ren := ⟨fun x => if new ≤ x ∧ x < new + es.length then ρg' (hg.length + (x - new)) else ρ x, ρ.base⟩
  have ρ_old : ∀ x, ¬ (new ≤ x ∧ x < new + es.length) → ρ' x = ρ x := fun x hx => by simp only [ρ']; rw [if_neg hx]
  have ρ_new : ∀ x, (new ≤ x ∧ x < new + es.length) → ρ' x = ρg' (hg.length + (x - new)) := fun x hx => by simp only [ρ']; rw [if_pos hx]
  have notown : ∀ i, ¬ Ctx.owned ⟨hg.length, ρg, hg, w⟩ i := by
    rintro i ⟨b, blk, c, _, hb, hr, _⟩
    rw [hgn b blk hb] at hr; cases hr
  have keep : ∀ i, i < w.heap.size → w'.heap[i]? = w.heap[i]? := fun i hi => hJ.keep i hi (notown i)
  have hsz : w.heap.size ≤ w'.heap.size := hJ.size
  have hle : ρ.le ρ' := ⟨fun x d hx => by
    rw [ρ_old x fun hx' => by rw [hI.sim.dom x (hfree x hx'.1 hx'.2)] at hx; cases hx]; exact hx, rfl⟩
  -- the entries
  have ent : ∀ x blk, (h.upds (wbNew new es)).get x = .live blk → ((new ≤ x ∧ x < new + es.length) ∧ Heap.get (hg ++ es) (hg.length + (x - new)) = .live blk ∧ blk.rw = true ∧ (∀ (ρ1 ρ2 : Ren) w cb co, CellsAt ρ1 w cb co blk.cells → CellsAt ρ2 w cb co blk.cells)) ∨ (¬ (new ≤ x ∧ x < new + es.length) ∧ h.get x = .live blk) := by
    intro x blk hx
    rw [get_wbNew] at hx
    by_cases hw : new ≤ x ∧ x < new + es.length
    · rw [if_pos hw] at hx
      have h1 : es[x - new]? = some (.live blk) := by
        have : x - new < es.length := by omega
        rw [List.getD_eq_getElem?_getD, List.getElem?_eq_getElem this] at hx
        rw [List.getElem?_eq_getElem this]; simpa using hx
      have h2 := List.all_eq_true.1 hes _ (List.mem_of_getElem? h1)
      simp only [Ent.own, Bool.and_eq_true] at h2
      refine .inl ⟨hw, ?_, h2.1, ?_⟩
      · simp only [Heap.get, List.getD_eq_getElem?_getD]
        rw [List.getElem?_append_right (by omega), Nat.add_sub_cancel_left, h1]; rfl
      · obtain ⟨_, h3⟩ := h2
        split at h3
        · rename_i s l hc; rw [hc]; exact fun _ _ _ _ _ h => h
        · rename_i l hc
          rw [hc]
          intro ρ1 ρ2 w cb co hca i v hi
          obtain ⟨cv, q1, q2⟩ := hca i v hi
          have hv := List.all_eq_true.1 h3 v (List.mem_of_getElem? hi)
          cases v with
          | val u => exact ⟨cv, q1, by simpa [VR] using q2⟩
          | _ => simp [AV.isVal] at hv
        · cases h3
    · rw [if_neg hw] at hx; exact .inr ⟨hw, hx⟩
  have freshg : ∀ b blk c, Heap.get (hg ++ es) b = .live blk → ρg' b = some c → blk.rw = true → blk.solid c → w.heap.size ≤ c.1 := fun b blk c hb hc hr hs => by
    rcases hJ.fresh b blk c hb hc hr hs with h1 | h1
    · exact h1
    · exact absurd h1 (notown _)
  refine ⟨ρ', hle, fun k hk => by rw [ρ_new _ (by omega)]; congr 1; omega, ⟨⟨?_, ?_, ?_, ?_, ?_, ?_, ?_, ?_, ?_⟩, ?_, hI.sameBase, hJ.os.trans hI.os, hJ.tape.trans hI.tape, hJ.output.trans hI.output, Nat.le_trans hI.size hsz, ?_, ?_⟩⟩
  · intro x blk hx
    rcases ent x blk hx with ⟨h1, h2, _⟩ | ⟨h1, h2⟩
    · rw [ρ_new x h1]; exact hJ.sim.some_ _ blk h2
    · rw [ρ_old x h1]; exact hI.sim.some_ x blk h2
  · intro x blk c hx hc
    rcases ent x blk hx with ⟨h1, h2, _, h3⟩ | ⟨h1, h2⟩
    · rw [ρ_new x h1] at hc
      have := hJ.sim.cells _ blk c h2 hc
      exact h3 _ _ _ _ _ this
    · rw [ρ_old x h1] at hc
      refine ((hI.sim.cells x blk c h2 hc).of_cell fun hpos o => ?_).mono hle
      exact cell_of_heap (keep _ (hI.sim.inside x blk c h2 hc (.inl hpos))) o
  · intro x blk c hx hc hs
    rcases ent x blk hx with ⟨h1, h2, _⟩ | ⟨h1, h2⟩
    · rw [ρ_new x h1] at hc; exact hJ.sim.inside _ blk c h2 hc hs
    · rw [ρ_old x h1] at hc; have := hI.sim.inside x blk c h2 hc hs; omega
  · intro x blk c hx hc hr hs
    rcases ent x blk hx with ⟨h1, h2, _⟩ | ⟨h1, h2⟩
    · rw [ρ_new x h1] at hc; exact hJ.sim.own _ blk c h2 hc hr hs
    · rw [ρ_old x h1] at hc
      obtain ⟨k1, cs, el, k2, k3⟩ := hI.sim.own x blk c h2 hc hr hs
      exact ⟨k1, cs, el, by rw [keep _ (hI.sim.inside x blk c h2 hc hs)]; exact k2, k3⟩
  · intro x y xb yb c d hx hy hne hc hd hr hs hs'
    rcases ent x xb hx with ⟨h1, h2, _⟩ | ⟨h1, h2⟩
    · rw [ρ_new x h1] at hc
      rcases ent y yb hy with ⟨k1, k2, _⟩ | ⟨k1, k2⟩
      · rw [ρ_new y k1] at hd
        exact hJ.sim.apart _ _ xb yb c d h2 k2 (by omega) hc hd hr hs hs'
      · rw [ρ_old y k1] at hd
        have := hI.sim.inside y yb d k2 hd hs'
        have := freshg _ xb c h2 hc hr hs
        omega
    · rw [ρ_old x h1] at hc
      rcases ent y yb hy with ⟨k1, k2, k3, _⟩ | ⟨k1, k2⟩
      · rw [ρ_new y k1] at hd
        have := hI.sim.inside x xb c h2 hc hs
        have := freshg _ yb d k2 hd k3 hs'
        omega
      · rw [ρ_old y k1] at hd
        exact hI.sim.apart x y xb yb c d h2 k2 hne hc hd hr hs hs'
  · intro x hx
    rw [get_wbNew] at hx
    by_cases hw : new ≤ x ∧ x < new + es.length
    · rw [if_pos hw] at hx
      have : x - new < es.length := by omega
      rw [List.getD_eq_getElem?_getD, List.getElem?_eq_getElem this] at hx
      have h2 := List.all_eq_true.1 hes _ (List.getElem_mem this)
      simp at hx; rw [hx] at h2; cases h2
    · rw [if_neg hw] at hx
      rw [ρ_old x hw]; exact hI.sim.dom x hx
  · show ρ.base.heap.size ≤ _
    have := hI.sim.baseLe; omega
  · intro i hi
    have hi : i < ρ.base.heap.size := hi
    rw [keep i (by have := hI.sim.baseLe; omega)]; exact hI.sim.old i hi
  · intro x blk c hx hc hr hs
    show ρ.base.heap.size ≤ _
    rcases ent x blk hx with ⟨h1, h2, _⟩ | ⟨h1, h2⟩
    · rw [ρ_new x h1] at hc
      have := freshg _ blk c h2 hc hr hs
      have := hI.sim.baseLe; omega
    · rw [ρ_old x h1] at hc; exact hI.sim.above x blk c h2 hc hr hs
  · intro b hb
    rw [ρ_old b (by omega)]; exact hI.agree b hb
  · intro i hi hno
    rw [keep i (by have := hI.size; omega)]; exact hI.keep i hi hno
  · intro x blk c hx hc hr hs
    rcases ent x blk hx with ⟨h1, h2, _⟩ | ⟨h1, h2⟩
    · rw [ρ_new x h1] at hc
      have := freshg _ blk c h2 hc hr hs
      have := hI.size
      exact .inl (by omega)
    · rw [ρ_old x h1] at hc; exact hI.fresh x blk c h2 hc hr hs
theorem Invokes.mono {P : Program} {f : FuncId} {args : Array Value} {w : World} {R R' : Ending → World → Prop} (h : Invokes P f args w R) (hr : ∀ e w, R e w → R' e w) : Invokes P f args w R' := by
  unfold Invokes at *
  generalize (callFunc f args).run P w = r at h
  cases r with
  | halt x w' => exact h.elim
  | ok nx w' =>
    cases nx with
    | enter g as => exact Calls.mono h hr
    | value v => exact hr _ _ h
    | _ => exact h.elim
theorem VRs.nil_any {ρ ρ' : Ren} {cs : List Value} (h : VRs ρ [] cs) : VRs ρ' [] cs := by
  cases cs with
  | nil => simp [VRs]
  | cons => simp [VRs] at h
mutual
theorem cells_shift {ρ ρ' : Ren} : ∀ (s : Sh) (y : s.T) (n new : Nat), (∀ k, k < s.ne → ρ' (new + k) = ρ (n + k)) → ∀ cs, VRs ρ (s.cells y n) cs → VRs ρ' (s.cells y new) cs
  | .int k, y, n, new, _, [], h => by simp [Sh.cells, VRs] at h
  | .int k, y, n, new, _, v :: cs, h => by
    simp only [Sh.cells, VRs, VR] at h ⊢
    exact ⟨h.1, h.2.nil_any⟩
  | .bool, y, n, new, _, [], h => by simp [Sh.cells, VRs] at h
  | .bool, y, n, new, _, v :: cs, h => by
    simp only [Sh.cells, VRs, VR] at h ⊢
    exact ⟨h.1, h.2.nil_any⟩
  | .str, y, n, new, _, [], h => by simp [Sh.cells, VRs] at h
  | .str, y, n, new, _, v :: cs, h => by
    simp only [Sh.cells, VRs, VR] at h ⊢
    exact ⟨h.1, h.2.nil_any⟩
  | .st l, y, n, new, hk, cs, h => by
    simp only [Sh.cells] at *
    exact cellss_shift l y n new hk cs h
  | .sl e, y, n, new, hk, cs, h => by
    have h0 := hk 0 (by simp [Sh.ne])
    simp only [Nat.add_zero] at h0
    cases cs with
    | nil => simp [Sh.cells, VRs] at h
    | cons v cs =>
      simp only [Sh.cells, VRs] at h ⊢
      refine ⟨?_, h.2.nil_any⟩
      have h1 := h.1
      simp only [VR] at h1 ⊢
      rw [h0]; exact h1
  | .rows e, y, n, new, hk, cs, h => by
    have h0 := hk 0 (by simp [Sh.ne])
    simp only [Nat.add_zero] at h0
    cases cs with
    | nil => simp [Sh.cells, VRs] at h
    | cons v cs =>
      simp only [Sh.cells, VRs] at h ⊢
      refine ⟨?_, h.2.nil_any⟩
      have h1 := h.1
      simp only [VR] at h1 ⊢
      rw [h0]; exact h1
theorem cellss_shift {ρ ρ' : Ren} : ∀ (l : List Sh) (y : Sh.Ts l) (n new : Nat), (∀ k, k < Sh.nes l → ρ' (new + k) = ρ (n + k)) → ∀ cs, VRs ρ (Sh.cellss l y n) cs → VRs ρ' (Sh.cellss l y new) cs
  | [], _, _, _, _, cs, h => h.nil_any
  | s :: l, y, n, new, hk, cs, h => by
    simp only [Sh.cellss] at h ⊢
    obtain ⟨v1, v2, rfl, h1, h2⟩ := VRs.split _ _ _ h
    refine (cells_shift s y.1 n new (fun k hl => hk k (by simp only [Sh.nes]; omega)) v1 h1).append (cellss_shift l y.2 (n + s.ne) (new + s.ne) (fun k hl => ?_) v2 h2)
    have := hk (s.ne + k) (by simp only [Sh.nes]; omega)
    rw [Nat.add_assoc, Nat.add_assoc]; exact this
end
theorem arg_shift {ρ ρ' : Ren} (s : Sh) (y : s.T) (n new : Nat) (hk : ∀ k, k < s.ne → ρ' (new + k) = ρ (n + k)) {v : Value} (h : VR ρ (s.arg y n) v) : VR ρ' (s.arg y new) v := by
  have one : s.cells y n = [s.arg y n] → s.cells y new = [s.arg y new] → VR ρ' (s.arg y new) v := fun e1 e2 => by
    have := cells_shift s y n new hk [v] (by rw [e1]; simp only [VRs]; exact ⟨h, trivial⟩)
    rw [e2] at this; simpa [VRs] using this
  cases s with
  | st l =>
    simp only [Sh.arg, VR] at h ⊢
    obtain ⟨cs, h1, h2⟩ := h
    exact ⟨cs, h1, cellss_shift l y n new hk _ h2⟩
  | int k => exact one rfl rfl
  | bool => exact one rfl rfl
  | str => exact one rfl rfl
  | sl e => exact one rfl rfl
  | rows e => exact one rfl rfl
theorem args_shift {ρ ρ' : Ren} : ∀ (l : List Sh) (y : Sh.Ts l) (n new : Nat), (∀ k, k < Sh.nes l → ρ' (new + k) = ρ (n + k)) → ∀ cs, VRs ρ (Sh.args l y n) cs → VRs ρ' (Sh.args l y new) cs
  | [], _, _, _, _, cs, h => h.nil_any
  | s :: l, y, n, new, hk, [], h => by simp [Sh.args, VRs] at h
  | s :: l, y, n, new, hk, v :: cs, h => by
    simp only [Sh.args, VRs] at h ⊢
    refine ⟨arg_shift s y.1 n new (fun k hl => hk k (by simp only [Sh.nes]; omega)) h.1, args_shift l y.2 (n + s.ne) (new + s.ne) (fun k hl => ?_) cs h.2⟩
    have := hk (s.ne + k) (by simp only [Sh.nes]; omega)
    rw [Nat.add_assoc, Nat.add_assoc]; exact this
def outV (rs : List Sh) (y : Sh.Ts rs) (n : Nat) : AV := resV (Sh.args rs y n)
theorem outV_shift {ρ ρ' : Ren} (rs : List Sh) (y : Sh.Ts rs) (n new : Nat) (hk : ∀ k, k < Sh.nes rs → ρ' (new + k) = ρ (n + k)) {v : Value} (h : VR ρ (outV rs y n) v) : VR ρ' (outV rs y new) v := by
  have len : ∀ (l : List Sh) (y : Sh.Ts l) n, (Sh.args l y n).length = l.length := by
    intro l
    induction l with
    | nil => intros; rfl
    | cons s l ih => intro y n; simp [Sh.args, ih]
  unfold outV resV at *
  match rs, y, hk, h with
  | [s], y, hk, h =>
    simp only [Sh.args] at h ⊢
    exact arg_shift s y.1 n new (fun k hl => hk k (by simp only [Sh.nes]; omega)) h
  | [], y, hk, h =>
    simp only [Sh.args, VR] at h ⊢
    obtain ⟨vs, h1, h2⟩ := h
    exact ⟨vs, h1, h2.nil_any⟩
  | s :: s' :: l, y, hk, h =>
    simp only [Sh.args] at h ⊢
    simp only [VR] at h ⊢
    obtain ⟨vs, h1, h2⟩ := h
    exact ⟨vs, h1, args_shift (s :: s' :: l) y n new hk _ h2⟩
def rwEnt : Ent → Ent
  | .live b => .live { b with rw := true }
  | e => e
def newEnts (rs : List Sh) (y : Sh.Ts rs) : List Ent := (Sh.entss rs y).map rwEnt
def Reads (P : Program) (f : FuncId) (ss rs : List Sh) (law : Sh.Ts ss → Option (Sh.Ts rs)) : Prop :=
  ∀ x y, law x = some y → Does P f (Sh.args ss x 0) (Sh.entss ss x) (outV rs y (Sh.entss ss x).length) (Sh.entss ss x ++ newEnts rs y)
def readsS {P : Program} {β : Type} (ss rs : List Sh) (law : Sh.Ts ss → Option (Sh.Ts rs)) (H : Nat → Ent) (new : Nat) (args : List AV) (K : Eff → Option β) : Option β :=
  match viewArgs H ss args with
  | some (x, bs, c) => ifK c ((law x).bind fun y => ifK ((newEnts rs y).all Ent.own) (K { rb := bs, wb := wbNew new (newEnts rs y), nw := (newEnts rs y).length, val := outV rs y new }))
  | none => none
def Reads.summ {P : Program} {f : FuncId} {ss rs : List Sh} {law : Sh.Ts ss → Option (Sh.Ts rs)} (hr : Reads P f ss rs law) : Summ P where
  f := f
  S := fun H new args K => readsS (P := P) ss rs law H new args K
  ok := by
    intro β H new args K r hs
    unfold readsS at hs
    split at hs
    case h_2 => cases hs
    rename_i x bs c hv
    obtain ⟨hc, hs⟩ := ifK_some hs
    rw [Option.bind_eq_some_iff] at hs
    obtain ⟨y, hy, hs⟩ := hs
    obtain ⟨hown, hs⟩ := ifK_some hs
    refine ⟨_, hs, fun Γ ρ h w cargs hI hargs hH hn hfree => ?_⟩
    obtain ⟨ρg, _, h1, h2, _⟩ := sim_views hI.sim.baseLe hI.sim.old (viewArgs_ok (Q := fun _ => True) hI.sim ss args _ hargs x bs c hv hH (fun _ _ => trivial) hc)
    refine (hr x y hy ρg w cargs h2 h1).mono fun e w' ⟨ρg', cv, he, hvv, hJ⟩ => ?_
    have hnl : (newEnts rs y).length = Sh.nes rs := by simp [newEnts, entss_length]
    obtain ⟨ρ', g1, g2, g3⟩ := after_pure hI (fun b blk hb => entss_norw hb) hown hJ hn hfree
    exact ⟨ρ', cv, he, g1, outV_shift rs y _ new (fun k hk => g2 k (by omega)) hvv, g3⟩
end Go.Ab
namespace Go.Ab
def outK {P : Program} (fn : Func) (rs : List Sh) (e : Exit) (t : List AV) (h : Heap) : Option (Sh.Ts rs) :=
  match okExit e with
  | true => (match resA P t h fn.results.toList with
    | some vs => (match viewArgs h.get rs vs with
      | some (y, _, c) => ifK c (some y)
      | none => none)
    | none => none)
  | false => none
def codeLaw (P : Program) (env : Env P) (fuel : Nat) (L : Loops P env.Y) (fn : Func) (c : Code) (ss rs : List Sh) (x : Sh.Ts ss) : Option (Sh.Ts rs) :=
  codeK P env (Sh.nes ss) fuel L [] (.code c) (Sh.args ss x 0 ++ List.replicate (fn.ntmps - ss.length) (.val undef)) (Sh.entss ss x) fun e t h => outK (P := P) fn rs e t h
theorem Loops.fit_nil {P : Program} {Y : Ctx → Prop} {C : Code} : Loops.fit C ([] : Loops P Y) := by intro s hs; simp at hs
theorem Loops.fit_cons {P : Program} {Y : Ctx → Prop} {C : Code} {p : List Nat} {s : LSumm P Y} {L : Loops P Y} (h : subAt C p = some s.c) (hL : Loops.fit C L) : Loops.fit C ((p, s) :: L) := by
  intro x hx
  rcases List.mem_cons.1 hx with rfl | hx
  · exact h
  · exact hL x hx
theorem run_results_list {P : Program} {Γ : Ctx} {ρ : Ren} {h : Heap} {w : World} (hI : Inv Γ ρ h w) {t : List AV} {a : Act} (hV : VRs ρ t a.tmps.toList) {fn : Func} {vs : List AV} (hres : resA P t h fn.results.toList = some vs) :
    ∃ us cv, (results fn a.tmps).run P w = .ok cv w ∧ VRs ρ vs us ∧ ∀ (ρ' : Ren) (vs' : List AV), VRs ρ' vs' us → VR ρ' (resV vs') cv := by
  obtain ⟨us, k1, k2⟩ := run_results (P := P) hI hV fn.results.toList vs hres
  have hsz := k2.length
  have h5 : (fn.results.mapM fun r : ResultVar => (match r with
      | .tmp t => pure (a.tmps.getD t undef)
      | .cell x t => do loadVar t (← asAddr (a.tmps.getD x undef)) : Sem Value)).run P w = .ok us.toArray w := by
    rw [Array.mapM_eq_mapM_toList, map_eq_pure_bind, Sem.run_bind]
    exact (congrArg (fun r => Result.andThen r fun a w' => Sem.run P (pure a.toArray) w') k1).trans rfl
  by_cases h1 : us.length = 1
  · match us, h1, k2, h5 with
    | [u], _, k2, h5 =>
      refine ⟨[u], u, ?_, k2, fun ρ' vs' hv => ?_⟩
      · unfold results
        rw [Sem.run_bind]
        refine Eq.trans (congrArg (fun r => Result.andThen r _) h5) ?_
        simp [Result.andThen, pure, Sem.run]
      · match vs', hv.length, hv with
        | [v1], _, hv => simp only [VRs] at hv; exact hv.1
  · refine ⟨us, .tuple us.toArray, ?_, k2, fun ρ' vs' hv => ?_⟩
    · unfold results
      rw [Sem.run_bind]
      refine Eq.trans (congrArg (fun r => Result.andThen r _) h5) ?_
      simp [Result.andThen, h1, pure, Sem.run]
    · have hl := hv.length
      have : resV vs' = .tup vs' := by
        unfold resV
        split
        · simp at hl; omega
        · rfl
      rw [this]; simp only [VR]; exact ⟨us.toArray, rfl, by simpa using hv⟩
theorem args_length : ∀ (l : List Sh) (y : Sh.Ts l) n, (Sh.args l y n).length = l.length
  | [], _, _ => rfl
  | s :: l, y, n => by simp [Sh.args, args_length l]
theorem settle {ρ ρ2 : Ren} {h0 h1 : Heap} {w w2 : World} (hS : Sim ρ h0 w) (hro : ∀ b blk, h0.get b = .live blk → blk.rw = false) (hI : Inv ⟨h0.length, ρ, h0, w⟩ ρ2 h1 w2) : Inv ⟨h0.length, ρ, h0, w⟩ ρ h0 w2 := by
  have notown : ∀ i, ¬ Ctx.owned ⟨h0.length, ρ, h0, w⟩ i := by
    rintro i ⟨b, blk, c, _, hb, hr, _⟩
    rw [hro b blk hb] at hr; cases hr
  have keep : ∀ i, i < w.heap.size → w2.heap[i]? = w.heap[i]? := fun i hi => hI.keep i hi (notown i)
  have hsz : w.heap.size ≤ w2.heap.size := hI.size
  have norw : ∀ b blk, h0.get b = .live blk → blk.rw = true → False := fun b blk hb hr => by rw [hro b blk hb] at hr; cases hr
  refine ⟨⟨hS.some_, fun b blk c hb hc => ?_, fun b blk c hb hc hs => ?_, fun b blk c hb hc hr => (norw b blk hb hr).elim, fun b b' blk blk' c c' hb hb' hne hc hc' hr => (norw b blk hb hr).elim, hS.dom, ?_, fun i hi => ?_, fun b blk c hb hc hr => (norw b blk hb hr).elim⟩, fun _ _ => rfl, rfl, hI.os, hI.tape, hI.output, hI.size, hI.keep, fun b blk c hb hc hr => (norw b blk hb hr).elim⟩
  · exact (hS.cells b blk c hb hc).of_cell fun hpos o => cell_of_heap (keep _ (hS.inside b blk c hb hc (.inl hpos))) o
  · have := hS.inside b blk c hb hc hs; omega
  · have := hS.baseLe; omega
  · rw [keep i (by have := hS.baseLe; omega)]; exact hS.old i hi
theorem Reads.of_code {P : Program} (hm : P.follows .mixedOrders = true) {f : FuncId} {fn : Func} {c : Code} (hf : P.funcs[f]? = some fn) (hb : fn.body = some c) (hname : (fn.name == "runtime.NumGoroutine") = false)
    (env : Env P) (fuel : Nat) {L : Loops P env.Y} (hL : L.fit c) {ss rs : List Sh} (hrs : Sh.nes rs = 0) (hy : ∀ Γ, env.Y Γ := by exact fun _ => True.intro) : Reads P f ss rs (codeLaw P env fuel L fn c ss rs) := by
  intro x y hxy ρ w cargs hsim hargs
  unfold codeLaw at hxy
  have hlen0 := entss_length ss x
  obtain ⟨e, t1, h1, hk, hn1, hg⟩ := codeK_ok hm fuel L [] (.code c) _ _ _ c hL (.inr rfl) (by omega) hxy
  unfold outK at hk
  split at hk
  case h_2 => cases hk
  rename_i hex
  split at hk
  case h_2 => cases hk
  rename_i vs hvs
  split at hk
  case h_2 => cases hk
  rename_i y' bs cc hview
  obtain ⟨hcc, hk⟩ := ifK_some hk
  injection hk with hk; subst hk
  unfold Invokes
  have hcall : (callFunc f cargs).run P w = .ok (.enter f cargs) w := by
    simp only [callFunc, program, Sem.run_bind, Sem.run, Result.andThen, hf]
    simp only [hname, hb, Option.isNone_some, Bool.false_eq_true, if_false]
    rfl
  rw [hcall]
  simp only
  have hlen := hargs.length
  rw [args_length] at hlen
  have hro : ∀ b blk, Heap.get (Sh.entss ss x) b = .live blk → blk.rw = false := fun b blk hb => entss_norw hb
  have hI : Inv ⟨(Sh.entss ss x).length, ρ, Sh.entss ss x, w⟩ ρ (Sh.entss ss x) w :=
    ⟨hsim, fun _ _ => rfl, rfl, rfl, rfl, rfl, Nat.le_refl _, fun _ _ _ => rfl, fun b blk d hb hd hrw hs => by rw [hro b blk hb] at hrw; cases hrw⟩
  have hV : VRs ρ (Sh.args ss x 0 ++ List.replicate (fn.ntmps - ss.length) (.val undef)) ({ tmps := cargs ++ Array.replicate (fn.ntmps - cargs.size) undef, defers := [] } : Act).tmps.toList := by
    simp only [Array.toList_append, Array.toList_replicate]
    refine hargs.append ?_
    rw [hlen]
    simpa using VRs.replicate (ρ := ρ) (a := .val undef) (v := undef) (by simp [VR]) (fn.ntmps - cargs.size)
  refine calls_of_runs hf hb hg hex hlen0 (hy _) hI hV fun ρ2 w2 a2 g2 g3 => ?_
  obtain ⟨us, cv, k1, k2, k3⟩ := run_results_list (P := P) g2 g3 hvs
  have hva := viewArgs_ok (Q := fun _ => True) g2.sim rs vs us k2 y' bs cc hview (fun b _ => rfl) (fun _ _ => trivial) hcc
  have hout : VR ρ (outV rs y' (Sh.entss ss x).length) cv := by
    obtain ⟨c0, hc0, hvv⟩ := hva
    have : c0 = [] := List.length_eq_zero_iff.1 (by rw [hc0, hrs])
    subst this
    refine k3 ρ _ ?_
    have := (hvv ⟨ρ.f, ρ2.base⟩ 0 rfl (fun i d hi => by simp at hi)).1
    exact args_shift rs y' 0 _ (fun k hk => by omega) us this
  have hset := settle hsim hro g2
  have hnew : newEnts rs y' = [] := List.length_eq_zero_iff.1 (by simp [newEnts, entss_length, hrs])
  have hfin : ∃ ρ' cv', cv = cv' ∧ VR ρ' (outV rs y' (Sh.entss ss x).length) cv' ∧ Inv ⟨(Sh.entss ss x).length, ρ, Sh.entss ss x, w⟩ ρ' (Sh.entss ss x ++ newEnts rs y') w2 :=
    ⟨ρ, cv, rfl, hout, by rw [hnew, List.append_nil]; exact hset⟩
  obtain ⟨ρ', cv', h7, h8, h9⟩ := hfin
  subst h7
  exact ⟨cv, k1, ρ', cv, rfl, h8, h9⟩
theorem Reads.to {P : Program} {f : FuncId} {ss rs : List Sh} {law law' : Sh.Ts ss → Option (Sh.Ts rs)} (h : Reads P f ss rs law) (he : ∀ x, law x = law' x) : Reads P f ss rs law' := fun x y hxy => h x y (by rw [he]; exact hxy)
end Go.Ab
namespace Go.Ab
def posOf (b : Nat) : List Nat → Nat → Option Nat
  | [], _ => none
  | x :: l, i => if x = b then some i else posOf b l (i + 1)
theorem posOf_some {b : Nat} : ∀ (l : List Nat) (i k : Nat), posOf b l i = some k → i ≤ k ∧ l[k - i]? = some b
  | [], i, k, h => by simp [posOf] at h
  | x :: l, i, k, h => by
    simp only [posOf] at h
    split at h
    · rename_i hx; injection h with h; subst h; subst hx; simp
    · obtain ⟨h1, h2⟩ := posOf_some l (i + 1) k h
      refine ⟨by omega, ?_⟩
      rw [show k - i = (k - (i + 1)) + 1 by omega]; simpa using h2
mutual
def unA (σ : List Nat) : AV → Option AV
  | .ptr b o => match posOf b σ 0 with
    | some i => some (.ptr i o)
    | none => none
  | .elt b o j w f => match posOf b σ 0 with
    | some i => some (.elt i o j w f)
    | none => none
  | .slc b o n c => match posOf b σ 0 with
    | some i => some (.slc i o n c)
    | none => none
  | .fn f a b => match unL σ a, unL σ b with
    | some x, some y => some (.fn f x y)
    | _, _ => none
  | .agg l => match unL σ l with
    | some x => some (.agg x)
    | none => none
  | .tup l => match unL σ l with
    | some x => some (.tup x)
    | none => none
  | .ifc t v => match unA σ v with
    | some x => some (.ifc t x)
    | none => none
  | .any => some .any
  | .val v => some (.val v)
def unL (σ : List Nat) : List AV → Option (List AV)
  | [] => some []
  | a :: l => match unA σ a, unL σ l with
    | some x, some y => some (x :: y)
    | _, _ => none
end
def sig (σ : List Nat) : List (Nat × Nat) := σ.map fun x => (x, 0)
theorem renB_un {σ : List Nat} {b i : Nat} (h : posOf b σ 0 = some i) (o : Nat) : renB (sig σ) σ.length 0 i o = (b, o) ∧ i < σ.length := by
  obtain ⟨_, h2⟩ := posOf_some σ 0 i h
  simp only [Nat.sub_zero] at h2
  have hlt := (List.getElem?_eq_some_iff.1 h2).1
  refine ⟨?_, hlt⟩
  unfold renB
  rw [if_pos hlt]
  simp [sig, h2]
mutual
theorem unA_ok {σ : List Nat} : ∀ (a x : AV), unA σ a = some x → renA (sig σ) σ.length 0 x = a ∧ okA σ.length x = true
  | .ptr b o, x, h => by
    simp only [unA] at h
    split at h
    case h_2 => cases h
    rename_i i hi
    injection h with h; subst h
    obtain ⟨h1, h2⟩ := renB_un hi o
    simp [renA, okA, h1, h2]
  | .elt b o j w f, x, h => by
    simp only [unA] at h
    split at h
    case h_2 => cases h
    rename_i i hi
    injection h with h; subst h
    obtain ⟨h1, h2⟩ := renB_un hi o
    simp [renA, okA, h1, h2]
  | .slc b o n c, x, h => by
    simp only [unA] at h
    split at h
    case h_2 => cases h
    rename_i i hi
    injection h with h; subst h
    obtain ⟨h1, h2⟩ := renB_un hi o
    simp [renA, okA, h1, h2]
  | .fn f a b, x, h => by
    simp only [unA] at h
    split at h
    case h_2 => cases h
    rename_i y z hy hz
    injection h with h; subst h
    obtain ⟨h1, h2⟩ := unL_ok a y hy
    obtain ⟨h3, h4⟩ := unL_ok b z hz
    simp [renA, okA, h1, h2, h3, h4]
  | .agg l, x, h => by
    simp only [unA] at h
    split at h
    case h_2 => cases h
    rename_i y hy
    injection h with h; subst h
    obtain ⟨h1, h2⟩ := unL_ok l y hy
    simp [renA, okA, h1, h2]
  | .tup l, x, h => by
    simp only [unA] at h
    split at h
    case h_2 => cases h
    rename_i y hy
    injection h with h; subst h
    obtain ⟨h1, h2⟩ := unL_ok l y hy
    simp [renA, okA, h1, h2]
  | .ifc t v, x, h => by
    simp only [unA] at h
    split at h
    case h_2 => cases h
    rename_i y hy
    injection h with h; subst h
    obtain ⟨h1, h2⟩ := unA_ok v y hy
    simp [renA, okA, h1, h2]
  | .any, x, h => by simp only [unA] at h; injection h with h; subst h; simp [renA, okA]
  | .val v, x, h => by simp only [unA] at h; injection h with h; subst h; simp [renA, okA]
theorem unL_ok {σ : List Nat} : ∀ (a x : List AV), unL σ a = some x → renL (sig σ) σ.length 0 x = a ∧ okL σ.length x = true
  | [], x, h => by simp only [unL] at h; injection h with h; subst h; simp [renL, okL]
  | a :: l, x, h => by
    simp only [unL] at h
    split at h
    case h_2 => cases h
    rename_i y z hy hz
    injection h with h; subst h
    obtain ⟨h1, h2⟩ := unA_ok a y hy
    obtain ⟨h3, h4⟩ := unL_ok l z hz
    simp [renL, okL, h1, h2, h3, h4]
end
theorem adapt1_self (a : AV) : a.adapt1 a = a := by
  cases a with
  | slc b o n c => cases c <;> rfl
  | _ => rfl
mutual
theorem adapt_self : ∀ a : AV, adapt a a = a
  | .agg l => by simp only [adapt]; rw [adapts_self l]
  | .fn f a b => by simp only [adapt]; rw [adapts_self a, adapts_self b]
  | .any => rfl
  | .val v => by simp only [adapt]; exact adapt1_self _
  | .ptr b o => by simp only [adapt]; exact adapt1_self _
  | .elt b o i w f => by simp only [adapt]; exact adapt1_self _
  | .slc b o n c => by simp only [adapt]; exact adapt1_self _
  | .tup l => by simp only [adapt]; exact adapt1_self _
  | .ifc t v => by simp only [adapt]; exact adapt1_self _
theorem adapts_self : ∀ l : List AV, adapts l l = l
  | [] => by simp [adapts]
  | a :: l => by simp only [adapts]; rw [adapt_self a, adapts_self l]
end
def unT (σ : List Nat) (keep : List Nat) : Nat → List AV → Option (List AV)
  | _, [] => some []
  | i, a :: l => match (if keep.contains i then unA σ a else some .any), unT σ keep (i + 1) l with
    | some x, some y => some (x :: y)
    | _, _ => none
theorem unT_ok {σ : List Nat} {keep : List Nat} : ∀ (l : List AV) (i : Nat) (x : List AV), unT σ keep i l = some x → adapts (renL (sig σ) σ.length 0 x) l = renL (sig σ) σ.length 0 x ∧ okL σ.length x = true
  | [], i, x, h => by simp only [unT] at h; injection h with h; subst h; simp [renL, okL, adapts]
  | a :: l, i, x, h => by
    simp only [unT] at h
    split at h
    case h_2 => cases h
    rename_i y z hy hz
    injection h with h; subst h
    obtain ⟨h3, h4⟩ := unT_ok l (i + 1) z hz
    split at hy
    · obtain ⟨h1, h2⟩ := unA_ok a y hy
      simp only [renL, okL, adapts, h1, h2, h3, h4, Bool.and_self, and_true]
      rw [adapt_self]
    · injection hy with hy; subst hy
      simp only [renL, renA, okL, okA, adapts, h3, h4, Bool.and_self, and_true]
      rw [show adapt .any a = .any from by simp only [adapt]; rfl]
def addB (b : Nat) (σ : List Nat) : List Nat := if σ.contains b then σ else σ ++ [b]
mutual
def blksA : AV → List Nat → List Nat
  | .ptr b _, σ => addB b σ
  | .elt b _ _ _ _, σ => addB b σ
  | .slc b _ _ _, σ => addB b σ
  | .fn _ a b, σ => blksL b (blksL a σ)
  | .agg l, σ => blksL l σ
  | .tup l, σ => blksL l σ
  | .ifc _ v, σ => blksA v σ
  | .any, σ => σ
  | .val _, σ => σ
def blksL : List AV → List Nat → List Nat
  | [], σ => σ
  | a :: l, σ => blksL l (blksA a σ)
end
def blksT (keep : List Nat) : Nat → List AV → List Nat → List Nat
  | _, [], σ => σ
  | i, a :: l, σ => blksT keep (i + 1) l (if keep.contains i then blksA a σ else σ)
def blksH (h : Heap) : Nat → Nat → List Nat → List Nat
  | 0, _, σ => σ
  | f + 1, i, σ => match σ[i]? with
    | none => σ
    | some b => blksH h f (i + 1) (match h.get b with
      | .live blk => (match blk.cells with
        | .lit l => blksL l σ
        | _ => σ)
      | _ => σ)
def unEnt (σ : List Nat) : Ent → Option Ent
  | .free => none
  | .dead => some .dead
  | .live blk => match blk.cells with
    | .lit l => (match unL σ l with
      | some x => some (.live { blk with cells := .lit x })
      | none => none)
    | _ => some (.live blk)
def unEnts (σ : List Nat) (h : Heap) : List Nat → Option (List Ent)
  | [] => some []
  | b :: l => match unEnt σ (h.get b), unEnts σ h l with
    | some e, some es => some (e :: es)
    | _, _ => none
def gcK {β : Type} (n0 : Nat) (keep : List Nat) (t : List AV) (h : Heap) (K : List AV → Heap → Option β) : Option β :=
  let σ := blksH h 1000 0 (blksT keep 0 t (List.range n0))
  match unT σ keep 0 t, unEnts σ h σ with
  | some t2, some h2 => if n0 ≤ σ.length ∧ startsSame n0 0 σ = true ∧ distinct σ = true then K t2 h2 else none
  | _, _ => none
theorem unEnts_ok {σ : List Nat} {h : Heap} : ∀ (l : List Nat) (es : List Ent), unEnts σ h l = some es → es.length = l.length ∧ okEnts σ.length es = true ∧
    (∃ obs, blockObs (sig σ) σ.length h (l.map fun x => (x, 0)) es = some obs ∧ ∀ p ∈ obs, p.holds)
  | [], es, hs => by simp only [unEnts] at hs; injection hs with hs; subst hs; exact ⟨rfl, rfl, [], rfl, by simp⟩
  | b :: l, es, hs => by
    simp only [unEnts] at hs
    split at hs
    case h_2 => cases hs
    rename_i e es' he hes
    injection hs with hs; subst hs
    obtain ⟨h1, h2, obs, h3, h4⟩ := unEnts_ok l es' hes
    unfold unEnt at he
    split at he
    · cases he
    · injection he with he; subst he
      exact ⟨by simp [h1], by simpa [okEnts] using h2, obs, by simpa [blockObs] using h3, h4⟩
    · rename_i blk hblk
      split at he
      · rename_i cs hcs
        split at he
        case h_2 => cases he
        rename_i x hx
        injection he with he; subst he
        obtain ⟨k1, k2⟩ := unL_ok cs x hx
        refine ⟨by simp [h1], by simp [okEnts, okCells, k2, h2], _, by simp only [List.map_cons, blockObs, h3, Option.map_some]; rfl, ?_⟩
        intro p hp
        rcases List.mem_cons.1 hp with rfl | hp
        · show h.get b = _
          rw [hblk]
          simp only [renBlk, renCells, k1, ← hcs]
        · exact h4 p hp
      · rename_i hnl
        injection he with he; subst he
        have hok : okCells σ.length blk.cells = true := by
          cases hc : blk.cells with
          | lit cs => exact absurd hc (hnl cs)
          | _ => rfl
        have hren : renBlk (sig σ) σ.length 0 blk = blk := by
          unfold renBlk
          cases hc : blk.cells with
          | lit cs => exact absurd hc (hnl cs)
          | _ => simp only [renCells]; rw [← hc]
        refine ⟨by simp [h1], by simp [okEnts, hok, h2], _, by simp only [List.map_cons, blockObs, h3, Option.map_some]; rfl, ?_⟩
        intro p hp
        rcases List.mem_cons.1 hp with rfl | hp
        · show h.get b = _
          rw [hblk, hren]
        · exact h4 p hp
theorem gcK_ok {β : Type} {n0 : Nat} {keep : List Nat} {t : List AV} {h : Heap} {K : List AV → Heap → Option β} {r : β} (hs : gcK n0 keep t h K = some r) :
    ∃ t2 h2, K t2 h2 = some r ∧ n0 ≤ h2.length ∧ ∃ σ l, weakObs n0 σ t t2 h h2 = some l ∧ ∀ p ∈ l, p.holds := by
  unfold gcK at hs
  simp only at hs
  generalize blksH h 1000 0 (blksT keep 0 t (List.range n0)) = σ at hs
  split at hs
  case h_2 => cases hs
  rename_i t2 h2 ht hh
  split at hs
  case isFalse => cases hs
  rename_i hc
  obtain ⟨k1, k2⟩ := unT_ok t 0 t2 ht
  obtain ⟨k3, k4, obs, k5, k6⟩ := unEnts_ok σ h2 hh
  refine ⟨t2, h2, hs, by rw [k3]; exact hc.1, σ, Ob.avs (adapts (renL (sig σ) σ.length 0 t2) t) (renL (sig σ) σ.length 0 t2) :: obs, ?_, ?_⟩
  · unfold weakObs
    simp only [k3]
    rw [if_pos ⟨trivial, hc.1, hc.2.1, hc.2.2, by simp [k2, k4]⟩]
    show (blockObs (sig σ) σ.length h (sig σ) h2).map _ = _
    rw [show sig σ = σ.map fun x => (x, 0) from rfl] at k5 ⊢
    rw [k5]; rfl
  · intro p hp
    rcases List.mem_cons.1 hp with rfl | hp
    · exact k1
    · exact k6 p hp
end Go.Ab
namespace Go.Ab
def roundK {β : Type} (P : Program) (env : Env P) (n0 fuel : Nat) (L : Loops P env.Y) (b : Code) (keep : List Nat) (keepX : Exit → List Nat) (A : List AV → Heap → Option β) (K : Exit → List AV → Heap → Option β) (t : List AV) (h : Heap) : Option β :=
  codeK P env n0 fuel L [] (.code b) t h fun e t' h' => match e with
    | .normal => gcK n0 keep t' h' A
    | e => gcK n0 (keepX e) t' h' fun t2 h2 => K e t2 h2
def roundEnd {β : Type} (n0 : Nat) (keep : List Nat) (keepX : Exit → List Nat) (A : List AV → Heap → Option β) (K : Exit → List AV → Heap → Option β) : Exit → List AV → Heap → Option β := fun e t' h' => match e with
    | .normal => gcK n0 keep t' h' A
    | e => gcK n0 (keepX e) t' h' fun t2 h2 => K e t2 h2
def loopN {β : Type} (P : Program) (env : Env P) (n0 fuel : Nat) (L : Loops P env.Y) (b : Code) (keep : List Nat) (keepX : Exit → List Nat) : Nat → List AV → Heap → (Exit → List AV → Heap → Option β) → Option β
  | 0, _, _, _ => none
  | n + 1, t, h, K => roundK P env n0 fuel L b keep keepX (fun t2 h2 => loopN P env n0 fuel L b keep keepX n t2 h2 K) K t h
theorem loopN_ok {β : Type} {P : Program} (hm : P.follows .mixedOrders = true) {env : Env P} {n0 fuel : Nat} {L : Loops P env.Y} {b : Code} (hL : L.fit b) {keep : List Nat} {keepX : Exit → List Nat} {K : Exit → List AV → Heap → Option β} {r : β} :
    ∀ (n : Nat) (t : List AV) (h : Heap), n0 ≤ h.length → loopN P env n0 fuel L b keep keepX n t h K = some r → ∃ e t' h', K e t' h' = some r ∧ ∃ m, Rounds P env.Y n0 m b t h e t' h'
  | 0, t, h, _, hs => by simp [loopN] at hs
  | n + 1, t, h, hn, hs => by
    simp only [loopN, roundK] at hs
    obtain ⟨e, t1, h1, hk, hn1, hg⟩ := codeK_ok hm fuel L [] (.code b) t h _ b hL (.inr rfl) hn hs
    have leave : e ≠ .normal → gcK n0 (keepX e) t1 h1 (fun t2 h2 => K e t2 h2) = some r → ∃ e t' h', K e t' h' = some r ∧ ∃ m, Rounds P env.Y n0 m b t h e t' h' := by
      intro he hs
      obtain ⟨t2, h2, hk2, hn2, σ, l, hw, hob⟩ := gcK_ok hs
      exact ⟨e, t2, h2, hk2, 1, Rounds.leave (Runs.weak hg hw hob hn2) he⟩
    cases e with
    | normal =>
      simp only at hk
      obtain ⟨t2, h2, hk2, hn2, σ, l, hw, hob⟩ := gcK_ok hk
      obtain ⟨e, t3, h3, hk3, m, hr⟩ := loopN_ok hm hL n t2 h2 hn2 hk2
      exact ⟨e, t3, h3, hk3, m + 1, Rounds.step hg hw hob hr⟩
    | _ => exact leave (by simp) hk
theorem Runs.weak_in {P : Program} {Y : Ctx → Prop} {n0 : Nat} {c : Code} {t t2 t' : List AV} {h h2 h' : Heap} {e : Exit} (hr : Runs P Y n0 c t2 h2 e t' h') {σ : List Nat} {l : List Ob} (hw : weakObs n0 σ t t2 h h2 = some l) (hob : ∀ p ∈ l, p.holds) : Runs P Y n0 c t h e t' h' := by
  refine ⟨hr.1, fun Γ hΓ hY fr ρ w a hI hV hd => ?_⟩
  obtain ⟨_, ρ2, g1, g2⟩ := weak_ok hw hob hΓ hI hV
  exact hr.2 Γ hΓ hY fr ρ2 w a g1 g2 hd
def emptyB : Blk := { cells := .arr (.int .u8) [], rw := true, grow := some 1 }
def wideT (i : Nat) (t : List AV) (h : Heap) : List AV × Heap := match t[i]? with
  | some (.val (.slice none 0 0)) => (t.set i (.slc h.length 0 0 .unk), h.upd h.length (.live emptyB))
  | _ => (t, h)
def wideH (i f : Nat) (t : List AV) (h : Heap) : List AV × Heap := match t[i]? with
  | some (.ptr b o) => (match h.get b with
    | .live blk => (match blk.cells with
      | .lit l => (match l[o + f]? with
        | some (.val (.slice none 0 0)) => (t, (h.upd h.length (.live emptyB)).upd b (.live { blk with cells := .lit (l.set (o + f) (.slc h.length 0 0 .unk)) }))
        | _ => (t, h))
      | _ => (t, h))
    | _ => (t, h))
  | _ => (t, h)
def wideS : List (Nat × Option Nat) → List AV → Heap → List AV × Heap
  | [], t, h => (t, h)
  | (i, none) :: ws, t, h => wideS ws (wideT i t h).1 (wideT i t h).2
  | (i, some f) :: ws, t, h => wideS ws (wideH i f t h).1 (wideH i f t h).2
def Wide (n0 : Nat) (t : List AV) (h : Heap) (t2 : List AV) (h2 : Heap) : Prop :=
  n0 ≤ h2.length ∧ ∀ (Γ : Ctx) (ρ : Ren) (w : World) (cs : List Value), Γ.n0 = n0 → Inv Γ ρ h w → VRs ρ t cs → ∃ ρ2, Inv Γ ρ2 h2 w ∧ VRs ρ2 t2 cs
theorem Wide.refl {n0 : Nat} {t : List AV} {h : Heap} (hn : n0 ≤ h.length) : Wide n0 t h t h := ⟨hn, fun _ ρ _ _ _ hI hV => ⟨ρ, hI, hV⟩⟩
theorem Wide.trans {n0 : Nat} {t t2 t3 : List AV} {h h2 h3 : Heap} (a : Wide n0 t h t2 h2) (b : Wide n0 t2 h2 t3 h3) : Wide n0 t h t3 h3 := ⟨b.1, fun Γ ρ w cs hΓ hI hV => by
  obtain ⟨ρ2, h1, h2⟩ := a.2 Γ ρ w cs hΓ hI hV
  exact b.2 Γ ρ2 w cs hΓ h1 h2⟩
theorem len_upd (h : Heap) (b : Nat) (e : Ent) : h.length ≤ (h.upd b e).length := by
  unfold Heap.upd
  split
  · simp
  · simp
theorem get_free (h : Heap) : h.get h.length = .free := by simp [Heap.get]
theorem Inv.emptyB {Γ : Ctx} {ρ : Ren} {h : Heap} {w : World} (hI : Inv Γ ρ h w) (hn : Γ.n0 ≤ h.length) : ρ.le (ρ.put h.length (0, 0, 0)) ∧ Inv Γ (ρ.put h.length (0, 0, 0)) (h.upd h.length (.live emptyB)) w :=
  hI.addEmpty hn (get_free h) (.arr (.int .u8) []) rfl (fun ρ w cb co i v hv => by simp [Sh.flatl] at hv) (some 1)
theorem wideT_ok {n0 : Nat} (i : Nat) {t : List AV} {h : Heap} (hn : n0 ≤ h.length) : Wide n0 t h (wideT i t h).1 (wideT i t h).2 := by
  unfold wideT
  split
  · rename_i hi
    refine ⟨Nat.le_trans hn (len_upd _ _ _), fun Γ ρ w cs hΓ hI hV => ?_⟩
    obtain ⟨hle, hI2⟩ := hI.emptyB (by omega)
    refine ⟨_, hI2, ?_⟩
    obtain ⟨v, hv, hr⟩ := hV.get i _ hi
    have hve : v = .slice none 0 0 := by simpa [VR] using hr
    have hs : cs.set i v = cs := by
      apply List.ext_getElem?
      intro j
      rw [List.getElem?_set]
      by_cases hj : i = j
      · subst hj; rw [if_pos rfl, if_pos (List.getElem?_eq_some_iff.1 hv).1, hv]
      · rw [if_neg hj]
    rw [← hs]
    refine VRs.set (VRs.mono hle _ _ hV) i ?_
    rw [hve]; simp only [VR]
    exact .inr ⟨trivial, none, rfl⟩
  · exact Wide.refl hn
theorem wideH_ok {n0 : Nat} (i f : Nat) {t : List AV} {h : Heap} (hn : n0 ≤ h.length) : Wide n0 t h (wideH i f t h).1 (wideH i f t h).2 := by
  unfold wideH
  split
  case h_2 => exact Wide.refl hn
  rename_i b o hi
  split
  case h_2 => exact Wide.refl hn
  rename_i blk hb
  split
  case h_2 => exact Wide.refl hn
  rename_i l hl
  split
  case h_2 => exact Wide.refl hn
  rename_i hnil
  refine ⟨Nat.le_trans (Nat.le_trans hn (len_upd _ _ _)) (len_upd _ _ _), fun Γ ρ w cs hΓ hI hV => ?_⟩
  obtain ⟨hle, hI2⟩ := hI.emptyB (by omega)
  refine ⟨_, ?_, VRs.mono hle _ _ hV⟩
  have hne : b ≠ h.length := fun e => by rw [e, get_free] at hb; cases hb
  have hb2 : (h.upd h.length (.live emptyB)).get b = .live blk := by rw [Heap.get_upd, if_neg hne]; exact hb
  refine hI2.recell hb2 (.lit (l.set (o + f) (.slc h.length 0 0 .unk))) (by rw [hl]; show (l.set _ _).length ≤ l.length; simp) fun c hc => ?_
  have hat := hI2.sim.cells b blk c hb2 hc
  rw [hl] at hat
  intro k v hk
  have hat : ∀ k v, l[k]? = some v → ∃ cv, w.cell? ⟨c.1, c.2.1 + k, none⟩ = some cv ∧ VR (ρ.put h.length (0, 0, 0)) v cv := hat
  rw [List.getElem?_set] at hk
  split at hk
  · rename_i hkk
    subst hkk
    split at hk
    case isFalse => cases hk
    injection hk with hk
    subst hk
    obtain ⟨cv, h1, h2⟩ := hat _ _ hnil
    refine ⟨cv, h1, ?_⟩
    have hve : cv = .slice none 0 0 := by simpa [VR] using h2
    rw [hve]; simp only [VR]
    exact .inr ⟨trivial, none, rfl⟩
  · exact hat k v hk
theorem wideS_ok {n0 : Nat} : ∀ (ws : List (Nat × Option Nat)) {t : List AV} {h : Heap}, n0 ≤ h.length → Wide n0 t h (wideS ws t h).1 (wideS ws t h).2
  | [], _, _, hn => Wide.refl hn
  | (i, none) :: ws, t, h, hn => (wideT_ok i hn).trans (wideS_ok ws (wideT_ok i hn).1)
  | (i, some f) :: ws, t, h, hn => (wideH_ok i f hn).trans (wideS_ok ws (wideH_ok i f hn).1)
theorem Runs.wide_in {P : Program} {Y : Ctx → Prop} {n0 : Nat} {c : Code} {t t2 t' : List AV} {h h2 h' : Heap} {e : Exit} (hr : Runs P Y n0 c t2 h2 e t' h') (hw : Wide n0 t h t2 h2) : Runs P Y n0 c t h e t' h' := by
  refine ⟨hr.1, fun Γ hΓ hY fr ρ w a hI hV hd => ?_⟩
  obtain ⟨ρ2, g1, g2⟩ := hw.2 Γ ρ w _ hΓ hI hV
  exact hr.2 Γ hΓ hY fr ρ2 w a g1 g2 hd
def loopSumm {P : Program} (hm : P.follows .mixedOrders = true) (env : Env P) (fuel : Nat) (L : Loops P env.Y) (b : Code) (hL : L.fit b) (keep : List Nat) (keepX : Exit → List Nat) (N : Nat) (ws : List (Nat × Option Nat) := []) : LSumm P env.Y where
  c := .loop b
  S := fun n0 t h K => gcK n0 keep (wideS ws t h).1 (wideS ws t h).2 fun t2 h2 => loopN P env n0 fuel L b keep keepX N t2 h2 K
  ok := by
    intro β n0 t h K r hn hs
    obtain ⟨t2, h2, hk2, hn2, σ, l, hw, hob⟩ := gcK_ok hs
    obtain ⟨e, t3, h3, hk3, m, hr⟩ := loopN_ok hm hL N t2 h2 hn2 hk2
    exact ⟨e, t3, h3, hk3, (Runs.weak_in (Runs.of_rounds hr) hw hob).wide_in (wideS_ok ws hn)⟩
def seqK {β : Type} (P : Program) (env : Env P) (n0 f : Nat) (L : Loops P env.Y) (p : List Nat) (b : Code) (K : Exit → List AV → Heap → Option β) : Exit → List AV → Heap → Option β := fun e t' h' => match e with
    | .normal => codeK P env n0 f L p (.code b) t' h' K
    | e => K e t' h'
def blkK {β : Type} (id : Nat) (K : Exit → List AV → Heap → Option β) : Exit → List AV → Heap → Option β := fun e t' h' => K (blockExit id e) t' h'
end Go.Ab
