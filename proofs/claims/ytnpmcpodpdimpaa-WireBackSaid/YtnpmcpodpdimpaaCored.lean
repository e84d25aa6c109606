/- An engine that names no program: what code does to what memory shows, evaluated over abstract values and an abstract heap, and that it is so. -/
import Derived.Test.YtnpmcpodpdimpaaCorec
import Derived.LoopNIn
import Derived.Scope
import Derived.RangeFuncLeaves
import Derived.RangeFuncRecord
import Derived.OpenShut
import Derived.WideShapes
import Derived.ChangeOld
import Derived.Carry
import Derived.ChangeShapes
import Derived.Below
import Derived.RowKit
/-
  CORE 15: a function's code, evaluated with what comes behind it; the contract of a function.
-/
set_option linter.unusedVariables false
set_option linter.unusedSimpArgs false
namespace Go.Ab

/-! ### knowing less: slots that are not looked at any more, blocks let go or numbered anew -/
def distinct : List Nat → Bool
  | [] => true
  | x :: l => !l.contains x && distinct l
def blockObs (σ : List (Nat × Nat)) (n : Nat) (h : Heap) : List (Nat × Nat) → List Ent → Option (List Ob)
  | [], [] => some []
  | (x, _) :: s, e :: es => match e with
    | .free => none
    | .dead => blockObs σ n h s es
    | .live b => (blockObs σ n h s es).map fun l => Ob.ent (h.get x) (.live (renBlk σ n 0 b)) :: l
  | _, _ => none
def startsSame : Nat → Nat → List Nat → Bool
  | 0, _, _ => true
  | n + 1, i, x :: l => decide (x = i) && startsSame n (i + 1) l
  | _ + 1, _, [] => false
def weakObs (n0 : Nat) (σ : List Nat) (t t2 : List AV) (h h2 : Heap) : Option (List Ob) :=
  let σ' := σ.map fun x => (x, 0)
  let n := h2.length
  if σ.length = n ∧ n0 ≤ n ∧ startsSame n0 0 σ = true ∧ distinct σ = true ∧ (okL n t2 && okEnts n h2) = true then
    (blockObs σ' n h σ' h2).map fun l => Ob.avs (adapts (renL σ' n 0 t2) t) (renL σ' n 0 t2) :: l
  else none

theorem startsSame_spec : ∀ (n i : Nat) (l : List Nat), startsSame n i l = true → ∀ k, k < n → l[k]? = some (i + k)
  | 0, _, _, _, k, hk => by omega
  | n + 1, i, x :: l, h, k, hk => by
    simp only [startsSame, Bool.and_eq_true, decide_eq_true_eq] at h
    cases k with
    | zero => simp [h.1]
    | succ k => simpa [Nat.add_assoc, Nat.add_comm 1 k] using startsSame_spec n (i + 1) l h.2 k (by omega)
  | n + 1, _, [], h, _, _ => by simp [startsSame] at h
theorem distinct_spec : ∀ (l : List Nat), distinct l = true → ∀ (i j x y : Nat), i < j → l[i]? = some x → l[j]? = some y → x ≠ y
  | [], _, i, j, x, y, _, h, _ => by simp at h
  | a :: l, h, i, j, x, y, hij, hi, hj => by
    simp only [distinct, Bool.and_eq_true, Bool.not_eq_true'] at h
    cases j with
    | zero => omega
    | succ j =>
      cases i with
      | zero =>
        simp at hi hj; subst hi
        intro e; subst e
        have := List.mem_of_getElem? hj
        simp [this] at h
      | succ i => exact distinct_spec l h.2 i j x y (by omega) (by simpa using hi) (by simpa using hj)
theorem blockObs_spec {σ : List (Nat × Nat)} {n : Nat} {h : Heap} : ∀ (s : List (Nat × Nat)) (es : List Ent) (r : List Ob), blockObs σ n h s es = some r →
    (∀ i, i < es.length → es[i]? ≠ some .free) ∧ ∀ (i : Nat) (b : Blk) (x o : Nat), es[i]? = some (.live b) → s[i]? = some (x, o) → Ob.ent (h.get x) (.live (renBlk σ n 0 b)) ∈ r
  | [], [], r, hr => by simp [blockObs] at hr; subst hr; exact ⟨fun i hi => by simp at hi, fun i b x o hi => by simp at hi⟩
  | (x0, o0) :: s, e :: es, r, hr => by
    cases e with
    | free => simp [blockObs] at hr
    | dead =>
      simp only [blockObs] at hr
      obtain ⟨h1, h2⟩ := blockObs_spec s es r hr
      refine ⟨fun i hi => ?_, fun i b x o hi hs => ?_⟩
      · cases i with
        | zero => simp
        | succ i => simpa using h1 i (by simpa using hi)
      · cases i with
        | zero => simp at hi
        | succ i => exact h2 i b x o (by simpa using hi) (by simpa using hs)
    | live b0 =>
      simp only [blockObs, Option.map_eq_some_iff] at hr
      obtain ⟨l, hl, rfl⟩ := hr
      obtain ⟨h1, h2⟩ := blockObs_spec s es l hl
      refine ⟨fun i hi => ?_, fun i b x o hi hs => ?_⟩
      · cases i with
        | zero => simp
        | succ i => simpa using h1 i (by simpa using hi)
      · cases i with
        | zero =>
          simp at hi hs
          obtain ⟨rfl, rfl⟩ := hs
          subst hi
          exact List.mem_cons_self ..
        | succ i => exact List.mem_cons_of_mem _ (h2 i b x o (by simpa using hi) (by simpa using hs))
  | [], _ :: _, r, hr => by simp [blockObs] at hr
  | _ :: _, [], r, hr => by simp [blockObs] at hr

theorem weak_ok {n0 : Nat} {σ : List Nat} {t t2 : List AV} {h h2 : Heap} {l : List Ob} (hw : weakObs n0 σ t t2 h h2 = some l) (hob : ∀ p ∈ l, p.holds) {Γ : Ctx} (hn : Γ.n0 = n0) {ρ : Ren} {w : World} {cs : List Value} (hI : Inv Γ ρ h w) (hV : VRs ρ t cs) :
    n0 ≤ h2.length ∧ ∃ ρ2, Inv Γ ρ2 h2 w ∧ VRs ρ2 t2 cs := by
  unfold weakObs at hw
  simp only at hw
  split at hw
  case isFalse => cases hw
  rename_i hcond
  obtain ⟨hlen, hn0, hsame, hdis, hok⟩ := hcond
  simp only [Bool.and_eq_true] at hok
  simp only [Option.map_eq_some_iff] at hw
  obtain ⟨l0, hl0, rfl⟩ := hw
  simp only [List.mem_cons, forall_eq_or_imp] at hob
  obtain ⟨hslots, hblocks⟩ := hob
  obtain ⟨hnf, hbl⟩ := blockObs_spec _ _ _ hl0
  refine ⟨hn0, ?_⟩
  let σ' := σ.map fun x => (x, 0)
  let ρ2 : Ren := ⟨fun i => match σ[i]? with
    | some x => ρ x
    | none => none, ρ.base⟩
  have tied : Tied σ' h2.length 0 h2.length ρ ρ2 := by
    refine ⟨by simp [σ', hlen], rfl, fun b x off hb => ?_, fun b h1 h2 => by omega⟩
    simp only [σ', List.getElem?_map, Option.map_eq_some_iff] at hb
    obtain ⟨y, hy, he⟩ := hb
    injection he with e1 e2; subst e1; subst e2
    simp only [ρ2, hy]
    cases ρ y with
    | none => rfl
    | some d => simp
  have get_of : ∀ i blk, h2.get i = .live blk → h2[i]? = some (.live blk) ∧ i < h2.length := fun i blk hi => by
    rcases Nat.lt_or_ge i h2.length with h' | h'
    · rw [Heap.get, List.getD_eq_getElem?_getD, List.getElem?_eq_getElem h'] at hi
      exact ⟨by rw [List.getElem?_eq_getElem h']; simpa using hi, h'⟩
    · simp [Heap.get, List.getD_eq_getElem?_getD, List.getElem?_eq_none h'] at hi
  have live_of : ∀ i blk, h2.get i = .live blk → ∃ x, σ[i]? = some x ∧ h.get x = .live (renBlk σ' h2.length 0 blk) ∧ ρ2 i = ρ x := by
    intro i blk hi
    obtain ⟨h1, h3⟩ := get_of i blk hi
    have h4 : i < σ.length := by omega
    refine ⟨σ[i], List.getElem?_eq_getElem h4, hblocks _ (hbl i blk σ[i] 0 h1 (by simp [h4])), ?_⟩
    simp only [ρ2, List.getElem?_eq_getElem h4]
  have sold : ∀ blk d, blk.solid d → (renBlk σ' h2.length 0 blk).solid d := fun blk d hs => by
    rcases hs with hs | hs
    · exact .inl (by simpa [renBlk, renCells_len] using hs)
    · exact .inr hs
  refine ⟨ρ2, ⟨⟨?_, ?_, ?_, ?_, ?_, ?_, hI.sim.baseLe, hI.sim.old, ?_⟩, ?_, hI.sameBase, hI.os, hI.tape, hI.output, hI.size, hI.keep, ?_⟩, ?_⟩
  · intro i blk hi
    obtain ⟨x, h1, h3, h4⟩ := live_of i blk hi
    rw [h4]; exact hI.sim.some_ x _ h3
  · intro i blk d hi hd
    obtain ⟨x, h1, h3, h4⟩ := live_of i blk hi
    rw [h4] at hd
    exact (CellsAt.ren tied w _ _ _ (okEnts_get hok.2 (get_of i blk hi).1)).1 (hI.sim.cells x _ d h3 hd)
  · intro i blk d hi hd hs
    obtain ⟨x, h1, h3, h4⟩ := live_of i blk hi
    rw [h4] at hd
    exact hI.sim.inside x _ d h3 hd (sold _ _ hs)
  · intro i blk d hi hd hr hs
    obtain ⟨x, h1, h3, h4⟩ := live_of i blk hi
    rw [h4] at hd
    obtain ⟨b1, cs', el, b2, b3, b4⟩ := hI.sim.own x _ d h3 hd hr (sold _ _ hs)
    exact ⟨b1, cs', el, b2, by simpa [renBlk, renCells_len] using b3, b4⟩
  · intro i j blk blk' d d' hi hj hij hd hd' hr hs hs'
    obtain ⟨x, h1, h3, h4⟩ := live_of i blk hi
    obtain ⟨y, k1, k3, k4⟩ := live_of j blk' hj
    rw [h4] at hd; rw [k4] at hd'
    have hne : x ≠ y := by
      rcases Nat.lt_or_gt_of_ne hij with hlt | hgt
      · exact distinct_spec σ hdis i j x y hlt h1 k1
      · exact fun e => distinct_spec σ hdis j i y x hgt k1 h1 e.symm
    exact hI.sim.apart x y _ _ d d' h3 k3 hne hd hd' hr (sold _ _ hs) (sold _ _ hs')
  · intro i hi
    by_cases hl : i < h2.length
    · exfalso
      rw [Heap.get, List.getD_eq_getElem?_getD, List.getElem?_eq_getElem hl] at hi
      exact hnf i hl (by rw [List.getElem?_eq_getElem hl]; simpa using hi)
    · simp only [ρ2, List.getElem?_eq_none (show σ.length ≤ i by omega)]
  · intro i blk d hi hd hr hs
    obtain ⟨x, h1, h3, h4⟩ := live_of i blk hi
    rw [h4] at hd
    exact hI.sim.above x _ d h3 hd hr (sold _ _ hs)
  · intro b hb
    have := startsSame_spec n0 0 σ hsame b (by omega)
    simp only [ρ2, this, Nat.zero_add]
    exact hI.agree b hb
  · intro i blk d hi hd hr hs
    obtain ⟨x, h1, h3, h4⟩ := live_of i blk hi
    rw [h4] at hd
    exact hI.fresh x _ d h3 hd hr (sold _ _ hs)
  · refine (VRs.ren tied _ _ hok.1).1 ?_
    rw [← show adapts (renL σ' h2.length 0 t2) t = renL σ' h2.length 0 t2 from hslots]
    exact VRs.adapt _ _ hV

/-! ### the caller's state anew; marks of ranges over functions -/
/-- MarksL of ranges over functions, with nothing to do. -/
def MarksL (Γ : Ctx) : List Deferred → World → Prop
  | [], _ => True
  | d :: ds, w => (∃ D, d = { target := .collected D, args := #[] } ∧ (Γ.w0.heap.size ≤ D ∧ Γ.ρ0.base.heap.size ≤ D) ∧ w.heap[D]? = some (.deferred (some [])) ∧ ∀ d' ∈ ds, d' ≠ d) ∧ MarksL Γ ds w
def Quiet (w w' : World) : Prop := ∀ (k : Nat) (o : Obj), w.heap[k]? = some o → (∀ cs e q, o ≠ .cells cs e q) → w'.heap[k]? = some o
theorem MarksL.mono {Γ : Ctx} {w w' : World} (hq : Quiet w w') : ∀ (ds : List Deferred), MarksL Γ ds w → MarksL Γ ds w'
  | [], _ => trivial
  | d :: ds, h => by
    obtain ⟨⟨D, h1, h2, h3, h4⟩, h5⟩ := h
    exact ⟨⟨D, h1, h2, hq D _ h3 (by simp), h4⟩, MarksL.mono hq ds h5⟩

def FrOK (fr : Option Nat) (w : World) : Prop := ∀ l, fr = some l → ∃ r, w.heap[l]? = some (.loop r)
def Marks (Γ : Ctx) (fr : Option Nat) (ds : List Deferred) (w : World) : Prop := FrOK fr w ∧ (∀ l, fr = some l → ds = []) ∧ MarksL Γ ds w
theorem Marks.mono {Γ : Ctx} {fr : Option Nat} {w w' : World} (hq : Quiet w w') {ds : List Deferred} (h : Marks Γ fr ds w) : Marks Γ fr ds w' :=
  ⟨fun l hl => by obtain ⟨r, hr⟩ := h.1 l hl; exact ⟨r, hq l _ hr (by simp)⟩, h.2.1, MarksL.mono hq _ h.2.2⟩

/-- The state as it is, as a context of its own. -/
theorem Inv.here {Γ : Ctx} {ρ : Ren} {h : Heap} {w : World} (hI : Inv Γ ρ h w) : Inv ⟨h.length, ρ, h, w⟩ ρ h w := by
  refine ⟨hI.sim, fun _ _ => rfl, rfl, rfl, rfl, rfl, Nat.le_refl _, fun _ _ _ => rfl, fun b blk d hb hd hrw hs => ?_⟩
  refine .inr ⟨b, blk, d, ?_, hb, hrw, hd, hs, rfl⟩
  rcases Nat.lt_or_ge b h.length with h' | h'
  · exact h'
  · simp [Heap.get, List.getD_eq_getElem?_getD, List.getElem?_eq_none h'] at hb
theorem Inv.owned_up {Γ : Ctx} {ρ : Ren} {h : Heap} {w : World} (hI : Inv Γ ρ h w) {i : Nat} (ho : Ctx.owned ⟨h.length, ρ, h, w⟩ i) : Γ.w0.heap.size ≤ i ∨ Γ.owned i := by
  obtain ⟨b, blk, c, h1, h2, h3, h4, h5, h6⟩ := ho
  rw [← h6]; exact hI.fresh b blk c h2 h4 h3 h5
theorem Inv.trans {Γ : Ctx} {ρ ρ2 : Ren} {h h2 : Heap} {w w2 : World} (hI : Inv Γ ρ h w) (hn : Γ.n0 ≤ h.length) (hJ : Inv ⟨h.length, ρ, h, w⟩ ρ2 h2 w2) : Inv Γ ρ2 h2 w2 := by
  refine ⟨hJ.sim, fun b hb => (hJ.agree b (Nat.lt_of_lt_of_le hb hn)).trans (hI.agree b hb), hJ.sameBase.trans hI.sameBase, hJ.os.trans hI.os, hJ.tape.trans hI.tape, hJ.output.trans hI.output, Nat.le_trans hI.size hJ.size, fun i hi hno => ?_, fun b blk c hb hc hr hs => ?_⟩
  · rw [hJ.keep i (Nat.lt_of_lt_of_le hi hI.size) fun ho => ?_]
    · exact hI.keep i hi hno
    · rcases hI.owned_up ho with h1 | h1
      · omega
      · exact hno h1
  · rcases hJ.fresh b blk c hb hc hr hs with h1 | h1
    · exact .inl (Nat.le_trans hI.size h1)
    · exact hI.owned_up h1
theorem Sim.not_owned {ρ : Ren} {h : Heap} {w : World} (hS : Sim ρ h w) {n : Nat} {k : Nat} {o : Obj} (hk : w.heap[k]? = some o) (ho : ∀ cs e q, o ≠ .cells cs e q) : ¬ Ctx.owned ⟨n, ρ, h, w⟩ k := by
  rintro ⟨b, blk, c, h1, h2, h3, h4, h5, h6⟩
  obtain ⟨_, cs, e, h8, _⟩ := hS.own b blk c h2 h4 h3 h5
  rw [h6, hk] at h8
  injection h8 with h8
  exact ho _ _ _ h8
theorem Inv.quiet {n : Nat} {ρ ρ2 : Ren} {h h2 : Heap} {w w2 : World} (hS : Sim ρ h w) (hJ : Inv ⟨n, ρ, h, w⟩ ρ2 h2 w2) : Quiet w w2 := fun k o hk ho => by
  have hlt : k < w.heap.size := (Array.getElem?_eq_some_iff.1 hk).1
  rw [hJ.keep k hlt (hS.not_owned hk ho)]; exact hk

/-! ### code -/
def PostIs (Γ : Ctx) (fr : Option Nat) (e : Exit) (t : List AV) (h : Heap) : Exit → Act → World → Prop :=
  fun e2 a2 w2 => e2 = e ∧ ∃ ρ2, Inv Γ ρ2 h w2 ∧ VRs ρ2 t a2.tmps.toList ∧ Marks Γ fr a2.defers w2

/-- From this state the code ends in that one. -/
def Runs (P : Program) (Y : Ctx → Prop) (n0 : Nat) (c : Code) (t : List AV) (h : Heap) (e : Exit) (t' : List AV) (h' : Heap) : Prop :=
  n0 ≤ h'.length ∧ ∀ Γ, Γ.n0 = n0 → Y Γ → ∀ (fr : Option Nat) ρ w (a : Act), Inv Γ ρ h w → VRs ρ t a.tmps.toList → Marks Γ fr a.defers w → c.wpIn (frF fr) 0 P (PostIs Γ fr e t' h') a w
/-- The same of a loop's rounds, n of them at the most. -/
def Rounds (P : Program) (Y : Ctx → Prop) (n0 n : Nat) (c : Code) (t : List AV) (h : Heap) (e : Exit) (t' : List AV) (h' : Heap) : Prop :=
  n0 ≤ h'.length ∧ ∀ Γ, Γ.n0 = n0 → Y Γ → ∀ (fr : Option Nat) ρ w (a : Act), Inv Γ ρ h w → VRs ρ t a.tmps.toList → Marks Γ fr a.defers w → Code.roundsIn (frF fr) 0 P c (PostIs Γ fr e t' h') n a w

theorem Runs.of_rounds {P : Program} {Y : Ctx → Prop} {n0 n : Nat} {c : Code} {t : List AV} {h : Heap} {e : Exit} {t' : List AV} {h' : Heap} (hr : Rounds P Y n0 n c t h e t' h') : Runs P Y n0 (.loop c) t h e t' h' :=
  ⟨hr.1, fun Γ hΓ hY fr ρ w a hI hV hd => wpIn_loop_rounds n (hr.2 Γ hΓ hY fr ρ w a hI hV hd)⟩

theorem Runs.weak {P : Program} {Y : Ctx → Prop} {n0 : Nat} {c : Code} {t : List AV} {h : Heap} {e : Exit} {t1 t' : List AV} {h1 h' : Heap} (hr : Runs P Y n0 c t h e t1 h1) {σ : List Nat} {l : List Ob} (hw : weakObs n0 σ t1 t' h1 h' = some l) (hob : ∀ p ∈ l, p.holds) (hn : n0 ≤ h'.length) : Runs P Y n0 c t h e t' h' := by
  refine ⟨hn, fun Γ hΓ hY fr ρ w a hI hV hd => wpIn_mono (hr.2 Γ hΓ hY fr ρ w a hI hV hd) fun e2 a2 w2 hp => ?_⟩
  obtain ⟨h1, ρ2, h2, h3, h4⟩ := hp
  obtain ⟨_, ρ3, h5, h6⟩ := weak_ok hw hob hΓ h2 h3
  exact ⟨h1, ρ3, h5, h6, h4⟩

/-- A round that goes on; its end is the next round's beginning, by a weakening. -/
theorem Rounds.step {P : Program} {Y : Ctx → Prop} {n0 n : Nat} {c : Code} {t : List AV} {h : Heap} {e : Exit} {t1 t2 t' : List AV} {h1 h2 h' : Heap} (hr : Runs P Y n0 c t h .normal t1 h1) {σ : List Nat} {l : List Ob} (hw : weakObs n0 σ t1 t2 h1 h2 = some l) (hob : ∀ p ∈ l, p.holds) (hrest : Rounds P Y n0 n c t2 h2 e t' h') : Rounds P Y n0 (n + 1) c t h e t' h' := by
  refine ⟨hrest.1, fun Γ hΓ hY fr ρ w a hI hV hd => ?_⟩
  refine wpIn_mono (hr.2 Γ hΓ hY fr ρ w a hI hV hd) fun e2 a2 w2 hp => ?_
  obtain ⟨rfl, ρ2, g2, g3, g4⟩ := hp
  obtain ⟨_, ρ3, g5, g6⟩ := weak_ok hw hob hΓ g2 g3
  exact hrest.2 Γ hΓ hY fr ρ3 w2 a2 g5 g6 g4
/-- A round that leaves the loop. -/
theorem Rounds.leave {P : Program} {Y : Ctx → Prop} {n0 n : Nat} {c : Code} {t : List AV} {h : Heap} {e : Exit} {t' : List AV} {h' : Heap} (hr : Runs P Y n0 c t h e t' h') (he : e ≠ .normal) : Rounds P Y n0 (n + 1) c t h e t' h' := by
  refine ⟨hr.1, fun Γ hΓ hY fr ρ w a hI hV hd => ?_⟩
  refine wpIn_mono (hr.2 Γ hΓ hY fr ρ w a hI hV hd) fun e2 a2 w2 hp => ?_
  obtain ⟨rfl, hp⟩ := hp
  cases e2 with
  | normal => exact absurd rfl he
  | _ => exact ⟨rfl, hp⟩


theorem Rounds.of_runs {P : Program} {Y : Ctx → Prop} {n0 n : Nat} {c : Code} {t : List AV} {h : Heap} {e : Exit} {t1 t' : List AV} {h1 h' : Heap} (hr : Runs P Y n0 c t h .normal t1 h1) (hrest : Rounds P Y n0 n c t1 h1 e t' h') : Rounds P Y n0 (n + 1) c t h e t' h' := by
  refine ⟨hrest.1, fun Γ hΓ hY fr ρ w a hI hV hd => ?_⟩
  refine wpIn_mono (hr.2 Γ hΓ hY fr ρ w a hI hV hd) fun e2 a2 w2 hp => ?_
  obtain ⟨rfl, ρ2, g2, g3, g4⟩ := hp
  exact hrest.2 Γ hΓ hY fr ρ2 w2 a2 g2 g3 g4

/-! ### regions -/
/-- Whether an operation is wanted; which way it went is kept in the slots. -/
def wantedK {β : Type} (ops : Array Oper) (o : Oper) (t : List AV) (K : Bool → List AV → Option β) : Option β :=
  match o.guard with
  | none => K true t
  | some (j, want) => match (ops[j]?).bind (·.dst) with
    | none => K false t
    | some d => match t.getD d (.val undef) with
      | .val (.bool b) => bif b then K (true == want) (t.set d (.val (.bool true))) else K (false == want) (t.set d (.val (.bool false)))
      | .val (.tuple _) => K false t
      | _ => none
theorem set_self {t : List AV} {d : Nat} {v : AV} (h : t.getD d (.val undef) = v) : t.set d v = t := by
  apply List.ext_getElem?
  intro i
  rw [List.getElem?_set]
  split
  · rename_i hi
    subst hi
    split
    · rename_i hlt
      rw [List.getElem?_eq_getElem hlt]
      rw [List.getD_eq_getElem?_getD, List.getElem?_eq_getElem hlt] at h
      simp at h; rw [h]
    · rename_i hlt
      rw [List.getElem?_eq_none (by omega)]
  · rfl
theorem wantedK_some {β : Type} {ops : Array Oper} {o : Oper} {t : List AV} {K : Bool → List AV → Option β} {r : β} (h : wantedK ops o t K = some r) : ∃ b, wantedA ops o t = some b ∧ K b t = some r := by
  unfold wantedK at h
  unfold wantedA
  split at h
  · rename_i hg; simp only [hg]; exact ⟨true, rfl, h⟩
  · rename_i j want hg
    simp only [hg]
    split at h
    · rename_i hd; simp only [hd]; exact ⟨false, rfl, h⟩
    · rename_i d hd
      simp only [hd]
      split at h
      · rename_i b hb
        simp only [hb]
        refine ⟨_, rfl, ?_⟩
        cases b with
        | true =>
          simp only [cond_true] at h
          rw [set_self hb] at h; exact h
        | false =>
          simp only [cond_false] at h
          rw [set_self hb] at h; exact h
      · rename_i x hb; simp only [hb]; exact ⟨false, rfl, h⟩
      · cases h

def deferB : Op → Bool
  | .defer _ => true
  | _ => false
def stepK {β : Type} (P : Program) (env : Env P) (ops : Array Oper) (o : Oper) (t : List AV) (h : Heap) (K : List AV → Did → Option β) : Option β :=
  wantedK ops o t fun wt t => match wt with
    | false => K t ⟨guardSlot ops o, [], o.dst, .val undef, [], h.length, 0⟩
    | true => if deferB o.op = true then none else opK P env o (evalE t) h.get h.length fun e => K t ⟨guardSlot ops o ++ tmpsOf o.op.operands.toList, e.rb, o.dst, e.val, e.wb, h.length, e.nw⟩

theorem stepK_ok {β : Type} {P : Program} {env : Env P} {ops : Array Oper} {i : Nat} {o : Oper} (hi : ops[i]? = some o) {t : List AV} {h : Heap} {K : List AV → Did → Option β} {r : β} (hs : stepK P env ops o t h K = some r) : ∃ d, K t d = some r ∧ Good P env.Y ops i t h d := by
  unfold stepK at hs
  obtain ⟨b, hw, hs⟩ := wantedK_some hs
  have hwant : ∀ t', (∀ s ∈ guardSlot ops o, t'.getD s (.val undef) = t.getD s (.val undef)) → wantedA ops o t' = some b := by
    intro t' hg
    unfold wantedA at hw ⊢
    unfold guardSlot at hg
    cases hgd : o.guard with
    | none => simpa [hgd] using hw
    | some jw =>
      obtain ⟨j, want⟩ := jw
      simp only [hgd] at hw hg ⊢
      cases hdd : (ops[j]?).bind (·.dst) with
      | none => simpa [hdd] using hw
      | some d =>
        simp only [hdd] at hw hg ⊢
        rw [hg d (by simp)]; exact hw
  cases b with
  | false =>
    refine ⟨_, hs, rfl, fun Γ hY t' h' ha hn ρ w a hI hV ds hd fr Q K hK => ?_⟩
    unfold wpOpIn
    simp only [hi]
    have := yielded_of hV (hwant t' fun s hs => ha.slots s hs)
    simp only [this, Bool.false_eq_true, if_false]
    refine ⟨fun _ _ => trivial, hK ρ w _ hI (putT_VRs hV o.dst (by simp [VR])) ?_⟩
    cases o.dst <;> simpa [Act.put] using hd
  | true =>
    simp only at hs
    split at hs
    · cases hs
    rename_i hdef
    obtain ⟨e, hk, hok⟩ := opK_ok hs
    refine ⟨_, hk, rfl, fun Γ hY t' h' ha hn ρ w a hI hV ds hd fr Q K hK => ?_⟩
    unfold wpOpIn
    simp only [hi]
    have := yielded_of hV (hwant t' fun s hs => ha.slots s (List.mem_append.2 (.inl hs)))
    simp only [this, if_true]
    refine hok Γ hY ρ h' w a hI (fun x hx => ?_) (fun b hb => ha.blocks b hb) hn (fun x h1 h2 => ha.free x h1 h2) (fun c hc => hdef (by simp [deferB, hc])) fr K Q fun ρ' w' cv h1 h2 h3 => ?_
    · rw [← evalE_agree ha (x := x) fun s hs => by subst hs; exact List.mem_append.2 (.inr (mem_tmpsOf (by simpa using hx)))]
      exact VR_evalE hV x
    · refine hK ρ' w' _ h3 (putT_VRs (VRs.mono h1 _ _ hV) o.dst h2) ?_
      cases o.dst <;> simpa [Act.put] using hd

def opsK {β : Type} (P : Program) (env : Env P) (ops : Array Oper) : List Oper → List AV → Heap → List Did → (List Did → List AV → Heap → Option β) → Option β
  | [], t, h, acc, K => K acc.reverse t h
  | o :: rest, t, h, acc, K => stepK P env ops o t h fun t d => opsK P env ops rest (d.t t) (d.h h) (d :: acc) K
theorem opsK_ok {β : Type} {P : Program} {env : Env P} {ops : Array Oper} {K : List Did → List AV → Heap → Option β} {r : β} : ∀ (l : List Oper) (k : Nat) (t : List AV) (h : Heap) (acc : List Did), (∀ i o, l[i]? = some o → ops[k + i]? = some o) → opsK P env ops l t h acc K = some r →
    ∃ dids, dids.length = l.length ∧ GoodAll P env.Y ops k t h dids ∧ K (acc.reverse ++ dids) (endT t dids) (endH h dids) = some r
  | [], k, t, h, acc, _, hs => ⟨[], rfl, trivial, by simpa [opsK, endT, endH] using hs⟩
  | o :: rest, k, t, h, acc, hl, hs => by
    simp only [opsK] at hs
    obtain ⟨d, hk, hg⟩ := stepK_ok (i := k) (by simpa using hl 0 o rfl) hs
    obtain ⟨dids, h1, h2, h3⟩ := opsK_ok rest (k + 1) _ _ _ (fun i o' hi => by have := hl (i + 1) o' (by simpa using hi); rw [show k + 1 + i = k + (i + 1) by omega]; exact this) hk
    exact ⟨d :: dids, by simp [h1], ⟨hg, h2⟩, by simpa [endT, endH] using h3⟩

def regK {β : Type} (P : Program) (env : Env P) (ops : Array Oper) (draw : Bool) (t : List AV) (h : Heap) (K : List AV → Heap → Option β) : Option β :=
  opsK P env ops ops.toList t h [] fun dids t' h' => match draw with
    | false => K t' h'
    | true => match masks ops.toList [] with
      | none => none
      | some ms => ifK (confs dids ms) (K t' h')

/-! ### code -/

theorem regK_ok {β : Type} {P : Program} (hm : P.follows .mixedOrders = true) {env : Env P} {id : Nat} {ops : Array Oper} {draw : Bool} {t : List AV} {h : Heap} {K : List AV → Heap → Option β} {r : β} {n0 : Nat} (hn : n0 ≤ h.length) (hs : regK P env ops draw t h K = some r) :
    ∃ t' h', K t' h' = some r ∧ Runs P env.Y n0 (.region id ops draw) t h .normal t' h' := by
  unfold regK at hs
  obtain ⟨dids, h1, h2, h3⟩ := opsK_ok ops.toList 0 t h [] (fun i o hi => by simpa using hi) hs
  have hlen : dids.length = ops.size := by simpa using h1
  simp only [List.reverse_nil, List.nil_append] at h3
  have key : (draw = true → ∃ ms, masks ops.toList [] = some ms ∧ confs dids ms = true) → Runs P env.Y n0 (.region id ops draw) t h .normal (endT t dids) (endH h dids) := fun hdr =>
    ⟨Nat.le_trans hn (endH_length _ _), fun Γ hΓ hY fr ρ w a hI hV hd => region_ok hm (Γ := ⟨h.length, ρ, h, w⟩) (env.stable Γ ρ h w hY hI (by omega)) hlen h2 hdr (Nat.le_refl _) hI.here hV rfl fun ρ' w' a' g1 g2 g3 => ⟨rfl, ρ', hI.trans (by omega) g1, g2, by rw [g3]; exact Marks.mono (Inv.quiet hI.sim g1) hd⟩⟩
  cases draw with
  | false => exact ⟨_, _, h3, key (by simp)⟩
  | true =>
    simp only at h3
    split at h3
    · cases h3
    · rename_i ms hms
      obtain ⟨hc, hK⟩ := ifK_some h3
      exact ⟨_, _, hK, key fun _ => ⟨ms, hms, hc⟩⟩

/-- A loop, by what its rounds come to. -/
structure LSumm (P : Program) (Y : Ctx → Prop := fun _ => True) where
  c : Code
  S : {β : Type} → Nat → List AV → Heap → (Exit → List AV → Heap → Option β) → Option β
  ok : ∀ {β : Type} (n0 : Nat) (t : List AV) (h : Heap) (K : Exit → List AV → Heap → Option β) (r : β), n0 ≤ h.length → S n0 t h K = some r → ∃ e t' h', K e t' h' = some r ∧ Runs P Y n0 c t h e t' h'
abbrev Loops (P : Program) (Y : Ctx → Prop := fun _ => True) := List (List Nat × LSumm P Y)
def Loops.find {P : Program} {Y : Ctx → Prop} : Loops P Y → List Nat → Option (LSumm P Y)
  | [], _ => none
  | s :: l, p => if s.1 = p then some s.2 else Loops.find l p
def kid : Code → Nat → Option Code
  | .seq a _, 0 => some a
  | .seq _ b, 1 => some b
  | .cond _ x _, 0 => some x
  | .cond _ _ y, 1 => some y
  | .block _ b, 0 => some b
  | .loop b, 0 => some b
  | .scope b, 0 => some b
  | _, _ => none
/-- The piece of code at a place (told from the place outwards). -/
def subAt (C : Code) : List Nat → Option Code
  | [] => some C
  | i :: p => (subAt C p).bind fun c => kid c i
def Loops.fit {P : Program} {Y : Ctx → Prop} (C : Code) (L : Loops P Y) : Prop := ∀ s ∈ L, subAt C s.1 = some s.2.c
theorem Loops.find_ok {P : Program} {Y : Ctx → Prop} {C : Code} : ∀ (L : Loops P Y) (p : List Nat) (s : LSumm P Y), L.fit C → L.find p = some s → subAt C p = some s.c
  | [], p, s, _, h => by simp [Loops.find] at h
  | x :: l, p, s, hf, h => by
    simp only [Loops.find] at h
    split at h
    · rename_i hp; injection h with h; subst h; subst hp; exact hf x (List.mem_cons_self ..)
    · exact Loops.find_ok l p s (fun y hy => hf y (List.mem_cons_of_mem _ hy)) h

def blockExit (id : Nat) : Exit → Exit
  | .exit i => if i = id then .normal else .exit i
  | e => e

inductive Todo where
  | code (c : Code)
  | rounds (c : Code)
  | jumps (c x : Code)

def codeK {β : Type} (P : Program) (env : Env P) (n0 : Nat) : Nat → Loops P env.Y → List Nat → Todo → List AV → Heap → (Exit → List AV → Heap → Option β) → Option β
  | 0, _, _, _, _, _, _ => none
  | f + 1, L, p, .code .skip, t, h, K => K .normal t h
  | f + 1, L, p, .code (.label _), t, h, K => K .normal t h
  | f + 1, L, p, .code (.exit id), t, h, K => K (.exit id) t h
  | f + 1, L, p, .code (.goto l), t, h, K => K (.goto l) t h
  | f + 1, L, p, .code .ret, t, h, K => K .ret t h
  | f + 1, L, p, .code (.region _ ops draw), t, h, K => regK P env ops draw t h fun t' h' => K .normal t' h'
  | f + 1, L, p, .code (.seq a b), t, h, K => codeK P env n0 f L (0 :: p) (.code a) t h fun e t' h' => match e with
    | .normal => codeK P env n0 f L (1 :: p) (.code b) t' h' K
    | e => K e t' h'
  | f + 1, L, p, .code (.cond c x y), t, h, K => match evalE t c with
    | .val (.bool v) => bif v then codeK P env n0 f L (0 :: p) (.code x) t h K else codeK P env n0 f L (1 :: p) (.code y) t h K
    | _ => none
  | f + 1, L, p, .code (.block id b), t, h, K => codeK P env n0 f L (0 :: p) (.code b) t h fun e t' h' => K (blockExit id e) t' h'
  | f + 1, L, p, .code (.loop b), t, h, K => match L.find p with
    | some s => s.S n0 t h K
    | none => codeK P env n0 f L (0 :: p) (.rounds b) t h K
  | f + 1, L, p, .code (.rangeFunc ..), t, h, K => match L.find p with
    | some s => s.S n0 t h K
    | none => none
  | f + 1, L, p, .rounds b, t, h, K => codeK P env n0 f L p (.code b) t h fun e t' h' => match e with
    | .normal => codeK P env n0 f L p (.rounds b) t' h' K
    | e => K e t' h'
  | f + 1, L, p, .code (.scope b), t, h, K => codeK P env n0 f L (0 :: p) (.jumps b b) t h K
  | f + 1, L, p, .jumps b x, t, h, K => codeK P env n0 f L p (.code x) t h fun e t' h' => match e with
    | .goto l => (match findLabel b l with
      | some rest => codeK P env n0 f [] [] (.jumps b rest) t' h' K
      | none => K (.goto l) t' h')
    | e => K e t' h'
  | _, _, _, _, _, _, _ => none

/-- Code inside a scope, some jumps ahead. -/
def Code.hops (F : Fence) (m : Nat) (P : Program) (c : Code) (Q : Exit → Act → World → Prop) : Nat → Code → Act → World → Prop
  | 0, _, _, _ => False
  | n + 1, x, a, w => x.wpIn F m P (fun e a w => match e with
    | .goto l => (match findLabel c l with
      | some rest => Code.hops F m P c Q n rest a w
      | none => Q (.goto l) a w)
    | e => Q e a w) a w
theorem wpIn_scope_hops {F : Fence} {m : Nat} {P : Program} {Q : Exit → Act → World → Prop} {c : Code} (n : Nat) {a : Act} {w : World} (h : Code.hops F m P c Q n c a w) : (Code.scope c).wpIn F m P Q a w := by
  intro b k cs hro hb hr
  have s1 : ∀ {a w}, step P (lone (b.atR a (.code (.scope c) :: k)) cs w) = .next (lone (b.atR a (.code c :: .inScope c :: k)) cs w) := fun {a w} => step_lone_go (by simp [stepG, stepG.exec, Frame.atR])
  have s2 : ∀ {a w}, step P (lone (b.atR a (.inScope c :: k)) cs w) = .next (lone (b.atR a k) cs w) := fun {a w} => step_lone_go (by simp [stepG, stepG.exec, Frame.atR])
  have key : ∀ n x a w, Code.hops F m P c Q n x a w → ∃ e a' w', Q e a' w' ∧ ArrivesIn (Machine.fenced P F) P (lone (b.atR a (.code x :: .inScope c :: k)) cs w) b k cs e a' w' := by
    intro n
    induction n with
    | zero => intro x a w h; exact h.elim
    | succ n ih =>
      intro x a w h
      obtain ⟨e, a₁, w₁, hq, harr⟩ := h b (.inScope c :: k) cs hro hb hr
      cases e with
      | normal => exact ⟨.normal, a₁, w₁, hq, StepsIn.trans harr (.one (fenced_calm hb hr rfl) s2)⟩
      | exit id =>
        have hx : exitTo id (.inScope c :: k) = exitTo id k := by simp [exitTo]
        exact ⟨.exit id, a₁, w₁, hq, fun k' hk => harr.1 k' (by rw [hx]; exact hk), fun hr' hk => harr.2 hr' (by rw [hx]; exact hk)⟩
      | goto l =>
        simp only at hq
        split at hq
        · rename_i rest hrest
          obtain ⟨e₂, a₂, w₂, hq₂, harr₂⟩ := ih rest a₁ w₁ hq
          exact ⟨e₂, a₂, w₂, hq₂, .of_steps (harr.1 _ (by simp [gotoIn, hrest])) harr₂⟩
        · rename_i hrest
          have hx : gotoIn l (.inScope c :: k) = gotoIn l k := by simp [gotoIn, hrest]
          exact ⟨.goto l, a₁, w₁, hq, fun k' hk => harr.1 k' (by rw [hx]; exact hk), fun hr' hk => harr.2 hr' (by rw [hx]; exact hk)⟩
      | ret => exact ⟨_, a₁, w₁, hq, harr⟩
      | panic ch => exact ⟨_, a₁, w₁, hq, harr⟩
      | outgrown => exact ⟨_, a₁, w₁, hq, harr⟩
  obtain ⟨e, a₁, w₁, hq, harr⟩ := key n c a w h
  exact ⟨e, a₁, w₁, hq, .of_steps (.one (fenced_calm hb hr rfl) s1) harr⟩

/-- The same by abstract states. -/
def Hops (P : Program) (Y : Ctx → Prop) (n0 n : Nat) (c x : Code) (t : List AV) (h : Heap) (e : Exit) (t' : List AV) (h' : Heap) : Prop :=
  n0 ≤ h'.length ∧ ∀ Γ, Γ.n0 = n0 → Y Γ → ∀ (fr : Option Nat) ρ w (a : Act), Inv Γ ρ h w → VRs ρ t a.tmps.toList → Marks Γ fr a.defers w → Code.hops (frF fr) 0 P c (PostIs Γ fr e t' h') n x a w

def Todo.good (P : Program) (Y : Ctx → Prop) (n0 : Nat) : Todo → List AV → Heap → Exit → List AV → Heap → Prop
  | .code c, t, h, e, t', h' => Runs P Y n0 c t h e t' h'
  | .rounds c, t, h, e, t', h' => ∃ n, Rounds P Y n0 n c t h e t' h'
  | .jumps c x, t, h, e, t', h' => ∃ n, Hops P Y n0 n c x t h e t' h'
def Todo.at_ (C : Code) : Todo → List Nat → Prop
  | .code c, p => subAt C p = some c
  | .rounds c, p => subAt C p = some c
  | .jumps c x, p => subAt C p = some x

theorem codeK_ok {β : Type} {P : Program} (hm : P.follows .mixedOrders = true) {env : Env P} {n0 : Nat} {r : β} : ∀ (f : Nat) (L : Loops P env.Y) (p : List Nat) (td : Todo) (t : List AV) (h : Heap) (K : Exit → List AV → Heap → Option β) (C : Code), L.fit C → (L = [] ∨ td.at_ C p) → n0 ≤ h.length → codeK P env n0 f L p td t h K = some r →
    ∃ e t' h', K e t' h' = some r ∧ n0 ≤ h'.length ∧ td.good P env.Y n0 t h e t' h'
  | 0, L, p, td, t, h, K, C, _, _, hn, hr => by simp [codeK] at hr
  | f + 1, L, p, td, t, h, K, C, hL, hp, hn, hr => by
    have sub : ∀ i c c', (L = [] ∨ subAt C p = some c) → kid c i = some c' → (L = [] ∨ subAt C (i :: p) = some c') := by
      intro i c c' h1 h2
      rcases h1 with h1 | h1
      · exact .inl h1
      · exact .inr (by simp [subAt, h1, h2])
    cases td with
    | rounds b =>
      simp only [codeK] at hr
      obtain ⟨e, t1, h1, hk, hn1, hg⟩ := codeK_ok hm f L p (.code b) t h _ C hL hp hn hr
      cases e with
      | normal =>
        simp only at hk
        obtain ⟨e2, t2, h2, hk2, hn2, n, hg2⟩ := codeK_ok hm f L p (.rounds b) t1 h1 _ C hL hp hn1 hk
        exact ⟨e2, t2, h2, hk2, hn2, n + 1, Rounds.of_runs hg hg2⟩
      | _ => exact ⟨_, t1, h1, hk, hn1, 1, Rounds.leave hg (by simp)⟩
    | jumps b x =>
      simp only [codeK] at hr
      obtain ⟨e, t1, h1, hk, hn1, hg⟩ := codeK_ok hm f L p (.code x) t h _ C hL hp hn hr
      have leave : ∀ e', e = e' → (∀ l, e' = .goto l → findLabel b l = none) → Hops P env.Y n0 1 b x t h e t1 h1 := by
        intro e' he hl
        refine ⟨hn1, fun Γ hΓ hY fr ρ w a hI hV hd => ?_⟩
        refine wpIn_mono (hg.2 Γ hΓ hY fr ρ w a hI hV hd) fun e2 a2 w2 hp => ?_
        obtain ⟨h5, hp⟩ := hp
        subst h5
        cases he' : e2 with
        | goto l =>
          simp only [hl l (by rw [← he, he'])]
          exact ⟨rfl, hp⟩
        | _ => exact ⟨rfl, hp⟩
      cases e with
      | goto l =>
        simp only at hk
        split at hk
        · rename_i rest hrest
          obtain ⟨e2, t2, h2, hk2, hn2, n, hg2⟩ := codeK_ok hm f [] [] (.jumps b rest) t1 h1 _ C (by intro s hs; simp at hs) (.inl rfl) hn1 hk
          refine ⟨e2, t2, h2, hk2, hn2, n + 1, hn2, fun Γ hΓ hY fr ρ w a hI hV hd => ?_⟩
          refine wpIn_mono (hg.2 Γ hΓ hY fr ρ w a hI hV hd) fun e3 a3 w3 hp => ?_
          obtain ⟨rfl, ρ3, g1, g2, g3⟩ := hp
          simp only [hrest]
          exact hg2.2 Γ hΓ hY fr ρ3 w3 a3 g1 g2 g3
        · rename_i hrest
          exact ⟨_, t1, h1, hk, hn1, 1, leave _ rfl (fun l' hl => by injection hl with hl; subst hl; exact hrest)⟩
      | _ => exact ⟨_, t1, h1, hk, hn1, 1, leave _ rfl (by simp)⟩
    | code c =>
    cases c with
    | skip => simp only [codeK] at hr; exact ⟨_, t, h, hr, hn, hn, fun Γ hΓ hY fr ρ w a hI hV hd => wpIn_skip ⟨rfl, ρ, hI, hV, hd⟩⟩
    | label l => simp only [codeK] at hr; exact ⟨_, t, h, hr, hn, hn, fun Γ hΓ hY fr ρ w a hI hV hd => wpIn_label ⟨rfl, ρ, hI, hV, hd⟩⟩
    | exit id => simp only [codeK] at hr; exact ⟨_, t, h, hr, hn, hn, fun Γ hΓ hY fr ρ w a hI hV hd => wpIn_exit ⟨rfl, ρ, hI, hV, hd⟩⟩
    | goto l => simp only [codeK] at hr; exact ⟨_, t, h, hr, hn, hn, fun Γ hΓ hY fr ρ w a hI hV hd => wpIn_goto ⟨rfl, ρ, hI, hV, hd⟩⟩
    | ret => simp only [codeK] at hr; exact ⟨_, t, h, hr, hn, hn, fun Γ hΓ hY fr ρ w a hI hV hd => wpIn_ret ⟨rfl, ρ, hI, hV, hd⟩⟩
    | region id ops draw =>
      simp only [codeK] at hr
      obtain ⟨t1, h1, hk, hg⟩ := regK_ok (id := id) hm hn hr
      exact ⟨_, t1, h1, hk, hg.1, hg⟩
    | seq a b =>
      simp only [codeK] at hr
      obtain ⟨e, t1, h1, hk, hn1, hg⟩ := codeK_ok hm f L (0 :: p) (.code a) t h _ C hL (sub 0 _ _ hp rfl) hn hr
      have leave : e ≠ .normal → Runs P env.Y n0 (.seq a b) t h e t1 h1 := fun he =>
        ⟨hn1, fun Γ hΓ hY fr ρ w act hI hV hd => wpIn_seq (wpIn_mono (hg.2 Γ hΓ hY fr ρ w act hI hV hd) fun e2 a2 w2 hp => by
          obtain ⟨rfl, hp⟩ := hp
          cases e2 with
          | normal => exact absurd rfl he
          | _ => exact ⟨rfl, hp⟩)⟩
      cases e with
      | normal =>
        simp only at hk
        obtain ⟨e2, t2, h2, hk2, hn2, hg2⟩ := codeK_ok hm f L (1 :: p) (.code b) t1 h1 _ C hL (sub 1 _ _ hp rfl) hn1 hk
        refine ⟨e2, t2, h2, hk2, hn2, hn2, fun Γ hΓ hY fr ρ w act hI hV hd => wpIn_seq (wpIn_mono (hg.2 Γ hΓ hY fr ρ w act hI hV hd) fun e3 a3 w3 hp => ?_)⟩
        obtain ⟨rfl, ρ3, g1, g2, g3⟩ := hp
        exact hg2.2 Γ hΓ hY fr ρ3 w3 a3 g1 g2 g3
      | _ => exact ⟨_, t1, h1, hk, hn1, leave (by simp)⟩
    | cond c x y =>
      simp only [codeK] at hr
      split at hr
      case h_2 => cases hr
      rename_i v hc
      cases v with
      | true =>
        obtain ⟨e, t1, h1, hk, hn1, hg⟩ := codeK_ok hm f L (0 :: p) (.code x) t h _ C hL (sub 0 _ _ hp rfl) hn hr
        refine ⟨e, t1, h1, hk, hn1, hn1, fun Γ hΓ hY fr ρ w act hI hV hd => wpIn_cond_true ?_ (hg.2 Γ hΓ hY fr ρ w act hI hV hd)⟩
        have := VR_evalE hV c
        rw [hc] at this; simpa [VR] using this
      | false =>
        obtain ⟨e, t1, h1, hk, hn1, hg⟩ := codeK_ok hm f L (1 :: p) (.code y) t h _ C hL (sub 1 _ _ hp rfl) hn hr
        refine ⟨e, t1, h1, hk, hn1, hn1, fun Γ hΓ hY fr ρ w act hI hV hd => wpIn_cond_false ?_ (hg.2 Γ hΓ hY fr ρ w act hI hV hd)⟩
        have := VR_evalE hV c
        rw [hc] at this; simpa [VR] using this
    | block id b =>
      simp only [codeK] at hr
      obtain ⟨e, t1, h1, hk, hn1, hg⟩ := codeK_ok hm f L (0 :: p) (.code b) t h _ C hL (sub 0 _ _ hp rfl) hn hr
      refine ⟨_, t1, h1, hk, hn1, hn1, fun Γ hΓ hY fr ρ w act hI hV hd => wpIn_block (wpIn_mono (hg.2 Γ hΓ hY fr ρ w act hI hV hd) fun e2 a2 w2 hp => ?_)⟩
      obtain ⟨rfl, hp⟩ := hp
      cases e2 with
      | exit i =>
        simp only [Exit.inBlock, blockExit]
        split
        · exact ⟨rfl, hp⟩
        · exact ⟨rfl, hp⟩
      | _ => exact ⟨rfl, hp⟩
    | loop b =>
      simp only [codeK] at hr
      split at hr
      · rename_i s hs
        have hb : subAt C p = some (.loop b) := by
          rcases hp with hp | hp
          · subst hp; simp [Loops.find] at hs
          · exact hp
        have hb2 := Loops.find_ok L p s hL hs
        rw [hb] at hb2
        injection hb2 with hb2
        obtain ⟨e, t1, h1, hk, hg⟩ := s.ok n0 t h K r hn hr
        rw [← hb2] at hg
        exact ⟨e, t1, h1, hk, hg.1, hg⟩
      · obtain ⟨e, t1, h1, hk, hn1, n, hg⟩ := codeK_ok hm f L (0 :: p) (.rounds b) t h _ C hL (sub 0 _ _ hp rfl) hn hr
        exact ⟨e, t1, h1, hk, hn1, Runs.of_rounds hg⟩
    | scope b =>
      simp only [codeK] at hr
      obtain ⟨e, t1, h1, hk, hn1, n, hg⟩ := codeK_ok hm f L (0 :: p) (.jumps b b) t h _ C hL (sub 0 _ _ hp rfl) hn hr
      exact ⟨e, t1, h1, hk, hn1, hn1, fun Γ hΓ hY fr ρ w act hI hV hd => wpIn_scope_hops n (hg.2 Γ hΓ hY fr ρ w act hI hV hd)⟩
    | rangeFunc g ps asg b =>
      simp only [codeK] at hr
      split at hr
      · rename_i s hs
        have hb : subAt C p = some (.rangeFunc g ps asg b) := by
          rcases hp with hp | hp
          · subst hp; simp [Loops.find] at hs
          · exact hp
        have hb2 := Loops.find_ok L p s hL hs
        rw [hb] at hb2
        injection hb2 with hb2
        obtain ⟨e, t1, h1, hk, hg⟩ := s.ok n0 t h K r hn hr
        rw [← hb2] at hg
        exact ⟨e, t1, h1, hk, hg.1, hg⟩
      · cases hr
    | _ => simp [codeK] at hr

/-! ### a function -/
def resA (P : Program) (t : List AV) (h : Heap) : List ResultVar → Option (List AV)
  | [] => some []
  | .tmp s :: l => (resA P t h l).map ((t.getD s (.val undef)) :: ·)
  | .cell a ty :: l => match t.getD a (.val undef) with
    | .ptr b o => match h.get b with
      | .live blk => match blk.cells with
        | .lit cs => (partA P ty cs o).bind fun v => (resA P t h l).map (v :: ·)
        | _ => none
      | _ => none
    | _ => none
def resV : List AV → AV
  | [v] => v
  | l => .tup l

theorem run_results {P : Program} {Γ : Ctx} {ρ : Ren} {h : Heap} {w : World} (hI : Inv Γ ρ h w) {t : List AV} {a : Act} (hV : VRs ρ t a.tmps.toList) : ∀ (l : List ResultVar) (vs : List AV), resA P t h l = some vs →
    ∃ us, (l.mapM fun r : ResultVar => (match r with
      | .tmp t => pure (a.tmps.getD t undef)
      | .cell x t => do loadVar t (← asAddr (a.tmps.getD x undef)) : Sem Value)).run P w = .ok us w ∧ VRs ρ vs us
  | [], vs, hr => by simp [resA] at hr; subst hr; exact ⟨[], rfl, by simp [VRs]⟩
  | .tmp s :: l, vs, hr => by
    simp only [resA, Option.map_eq_some_iff] at hr
    obtain ⟨vs', h1, rfl⟩ := hr
    obtain ⟨us, h2, h3⟩ := run_results hI hV l vs' h1
    refine ⟨a.tmps.getD s undef :: us, ?_, ?_⟩
    · simp only [List.mapM_cons, Sem.run_bind, Sem.run_pure, Result.andThen, h2]
    · simp only [VRs]; exact ⟨by simpa [evalE, Act.eval] using VR_evalE hV (.tmp s), h3⟩
  | .cell x ty :: l, vs, hr => by
    simp only [resA] at hr
    split at hr
    case h_2 => cases hr
    rename_i b o hx
    split at hr
    case h_2 => cases hr
    rename_i blk hblk
    split at hr
    case h_2 => cases hr
    rename_i cs hcs
    simp only [Option.bind_eq_some_iff, Option.map_eq_some_iff] at hr
    obtain ⟨v, hv, vs', h1, rfl⟩ := hr
    obtain ⟨us, h2, h3⟩ := run_results hI hV l vs' h1
    have hp := VR_evalE hV (.tmp x)
    simp only [evalE, Act.eval] at hp
    rw [hx] at hp
    simp only [VR] at hp
    obtain ⟨cb, co, cc, hρ, hp⟩ := hp
    have hca := hI.sim.cells b blk _ hblk hρ
    rw [hcs] at hca
    obtain ⟨u, h4, h5⟩ := loadVar_lit (P := P) hv hca
    refine ⟨u :: us, ?_, by simp only [VRs]; exact ⟨h5, h3⟩⟩
    have h6 : (asAddr (a.tmps.getD x undef)).run P w = .ok ⟨cb, co + o, none⟩ w := by rw [hp]; rfl
    simp only at h4
    simp only [List.mapM_cons, Sem.run_bind, h6, Sem.run_pure, Result.andThen, h4, h2]

def okExit : Exit → Bool
  | .ret => true
  | .normal => true
  | _ => false

/-- The world turns where no cells lie, and nothing of old. -/
theorem Inv.other {Γ : Ctx} {ρ : Ren} {h : Heap} {w w' : World} (hI : Inv Γ ρ h w) (hsz : w.heap.size ≤ w'.heap.size) (hc : ∀ a, w'.cell? a = w.cell? a) (hcells : ∀ (i : Nat) cs e q, w.heap[i]? = some (.cells cs e q) → w'.heap[i]? = some (.cells cs e q))
    (hold : ∀ i, i < ρ.base.heap.size ∨ i < Γ.w0.heap.size → w'.heap[i]? = w.heap[i]?) (ho : w'.os = w.os) (ht : w'.tape = w.tape) (hu : w'.output = w.output) : Inv Γ ρ h w' := by
  have hs := hI.sim
  refine ⟨⟨hs.some_, fun b blk c hb hρ => (hs.cells b blk c hb hρ).of_cell fun _ o => hc _, fun b blk c hb hρ hso => Nat.lt_of_lt_of_le (hs.inside b blk c hb hρ hso) hsz, fun b blk c hb hρ hrw hso => ?_, hs.apart, hs.dom, Nat.le_trans hs.baseLe hsz, fun i hi => by rw [hold i (.inl hi)]; exact hs.old i hi, hs.above⟩,
    hI.agree, hI.sameBase, ho.trans hI.os, ht.trans hI.tape, hu.trans hI.output, Nat.le_trans hI.size hsz, fun i hi hn => by rw [hold i (.inr hi)]; exact hI.keep i hi hn, hI.fresh⟩
  obtain ⟨h1, cs, e, h2, h3⟩ := hs.own b blk c hb hρ hrw hso
  exact ⟨h1, cs, e, hcells _ _ _ _ h2, h3⟩
theorem cell_putObj {w : World} {D : Nat} {o o' : Obj} (h : w.heap[D]? = some o) (ho : ∀ cs e q, o ≠ .cells cs e q) (ho' : ∀ cs e q, o' ≠ .cells cs e q) (a : Addr) : (w.putObj D o').cell? a = w.cell? a := by
  unfold World.cell?
  have hlt : D < w.heap.size := (Array.getElem?_eq_some_iff.1 h).1
  by_cases hD : a.block = D
  · rw [hD, World.putObj_heap_same hlt, h]
    cases o with
    | cells cs e q => exact absurd rfl (ho cs e q)
    | _ =>
      cases o' with
      | cells cs e q => exact absurd rfl (ho' cs e q)
      | _ => rfl
  · rw [World.putObj_heap_other hD]
theorem Inv.putObj {Γ : Ctx} {ρ : Ren} {h : Heap} {w : World} (hI : Inv Γ ρ h w) {D : Nat} {o o' : Obj} (hD : w.heap[D]? = some o) (ho : ∀ cs e q, o ≠ .cells cs e q) (ho' : ∀ cs e q, o' ≠ .cells cs e q) (h1 : Γ.w0.heap.size ≤ D) (h2 : ρ.base.heap.size ≤ D) : Inv Γ ρ h (w.putObj D o') := by
  refine hI.other (by simp) (cell_putObj hD ho ho') (fun i cs e q hi => ?_) (fun i hi => World.putObj_heap_other (by omega)) rfl rfl rfl
  rw [World.putObj_heap_other (fun e' => ?_)]
  · exact hi
  · subst e'; rw [hD] at hi; injection hi with hi; exact absurd hi (ho _ _ _)
theorem leaves_marks {P : Program} {fn : Func} {tmps : Array Value} {R : Ending → World → Prop} {Γ : Ctx} {ρ : Ren} {h : Heap} (hR : ∀ w2, Inv Γ ρ h w2 → ∃ v, (results fn tmps).run P w2 = .ok v w2 ∧ R (.returned v) w2) :
    ∀ (ds : List Deferred) (w : World), Inv Γ ρ h w → MarksL Γ ds w → LeavesInM (frF none) 0 P fn tmps R ds .returning w
  | [], w, hI, _ => by
    show LeavesIn _ _ _ _ _ _ _ _ _
    exact hR w hI
  | d :: ds, w, hI, hm => by
    obtain ⟨⟨D, rfl, ⟨h1, h2⟩, h3, h4⟩, h5⟩ := hm
    refine ⟨by simp, .inl ⟨D, w.putObj D (.deferred none), rfl, run_takeDeferred h3, ?_⟩⟩
    refine leaves_marks hR ds _ (hI.putObj h3 (by simp) (by simp) h1 (by rw [hI.sameBase]; exact h2)) ?_
    have : ∀ (ds : List Deferred), (∀ d' ∈ ds, d' ≠ ({ target := .collected D, args := #[] } : Deferred)) → MarksL Γ ds w → MarksL Γ ds (w.putObj D (.deferred none)) := by
      intro ds
      induction ds with
      | nil => intro _ _; trivial
      | cons d ds ih =>
        intro hne hm
        obtain ⟨⟨D', e1, e2, e3, e4⟩, e5⟩ := hm
        refine ⟨⟨D', e1, e2, ?_, e4⟩, ih (fun d' hd' => hne d' (List.mem_cons_of_mem _ hd')) e5⟩
        rw [World.putObj_heap_other (fun e' => ?_)]
        · exact e3
        · subst e'; exact hne d (List.mem_cons_self ..) e1
    exact this ds h4 h5

/-- A function's call, from its code. -/
theorem callsIn_of_runs {P : Program} {Y : Ctx → Prop} {f : FuncId} {fn : Func} {c : Code} (hf : P.funcs[f]? = some fn) (hb : fn.body = some c) {n0 : Nat} {t t' : List AV} {h h' : Heap} {e : Exit} (hr : Runs P Y n0 c t h e t' h') (he : okExit e = true)
    {Γ : Ctx} (hΓ : Γ.n0 = n0) (hY : Y Γ) {ρ : Ren} {w : World} (hI : Inv Γ ρ h w) {cargs : Array Value} (hV : VRs ρ t (cargs ++ Array.replicate (fn.ntmps - cargs.size) undef).toList) {R : Ending → World → Prop}
    (hR : ∀ ρ2 w2 (a2 : Act), Inv Γ ρ2 h' w2 → VRs ρ2 t' a2.tmps.toList → ∃ v, (results fn a2.tmps).run P w2 = .ok v w2 ∧ R (.returned v) w2) : CallsIn Fence.wide 0 P f cargs w R := by
  refine callsIn_of_wp_marks (F := frF none) hf hb trivial (wpIn_mono (hr.2 Γ hΓ hY none ρ w _ hI hV ⟨fun l hl => by (cases hl), fun l hl => by (cases hl), trivial⟩) fun e2 a2 w2 hp => ?_)
  obtain ⟨rfl, ρ2, g2, g3, g4⟩ := hp
  have key := leaves_marks (P := P) (fn := fn) (tmps := a2.tmps) (R := R) (fun w3 h3 => hR ρ2 w3 a2 h3 g3) a2.defers w2 g2 g4.2.2
  cases e2 with
  | ret => exact key
  | normal => exact key
  | _ => simp [okExit] at he
theorem calls_of_runs {P : Program} {Y : Ctx → Prop} {f : FuncId} {fn : Func} {c : Code} (hf : P.funcs[f]? = some fn) (hb : fn.body = some c) {n0 : Nat} {t t' : List AV} {h h' : Heap} {e : Exit} (hr : Runs P Y n0 c t h e t' h') (he : okExit e = true)
    {Γ : Ctx} (hΓ : Γ.n0 = n0) (hY : Y Γ) {ρ : Ren} {w : World} (hI : Inv Γ ρ h w) {cargs : Array Value} (hV : VRs ρ t (cargs ++ Array.replicate (fn.ntmps - cargs.size) undef).toList) {R : Ending → World → Prop}
    (hR : ∀ ρ2 w2 (a2 : Act), Inv Γ ρ2 h' w2 → VRs ρ2 t' a2.tmps.toList → ∃ v, (results fn a2.tmps).run P w2 = .ok v w2 ∧ R (.returned v) w2) : Calls P f cargs w R :=
  callsIn_wide.1 (callsIn_of_runs hf hb hr he hΓ hY hI hV hR)

end Go.Ab
/-
  CORE 16: values of a shape as abstract values and blocks.
-/
set_option linter.unusedVariables false
set_option linter.unusedSimpArgs false
namespace Go.Ab

mutual
/-- The blocks that lie behind a value. -/
def Sh.ents : (s : Sh) → s.T → List Ent
  | .int _, _ => []
  | .bool, _ => []
  | .str, _ => []
  | .st l, x => Sh.entss l x
  | .sl e, l => [.live { cells := .arr e l, rw := false }]
  | .rows e, l => [.live { cells := .arrs e l, rw := false }]
def Sh.entss : (l : List Sh) → Sh.Ts l → List Ent
  | [], _ => []
  | s :: l, x => Sh.ents s x.1 ++ Sh.entss l x.2
end
mutual
/-- How many of them. -/
def Sh.ne : Sh → Nat
  | .int _ => 0
  | .bool => 0
  | .str => 0
  | .st l => Sh.nes l
  | .sl _ => 1
  | .rows _ => 1
def Sh.nes : List Sh → Nat
  | [] => 0
  | s :: l => Sh.ne s + Sh.nes l
end
mutual
/-- Its cells, the blocks being numbered from n on. -/
def Sh.cells : (s : Sh) → s.T → Nat → List AV
  | .int k, x, _ => [.val (.int k x)]
  | .bool, b, _ => [.val (.bool b)]
  | .str, s, _ => [.val (.string s)]
  | .st l, x, n => Sh.cellss l x n
  | .sl _, l, n => [.slc n 0 l.length .low]
  | .rows _, l, n => [.slc n 0 l.length .low]
def Sh.cellss : (l : List Sh) → Sh.Ts l → Nat → List AV
  | [], _, _ => []
  | s :: l, x, n => Sh.cells s x.1 n ++ Sh.cellss l x.2 (n + Sh.ne s)
end
mutual
theorem ents_length : ∀ (s : Sh) (x : s.T), (s.ents x).length = s.ne
  | .int _, _ => rfl
  | .bool, _ => rfl
  | .str, _ => rfl
  | .st l, x => by simpa [Sh.ents, Sh.ne] using entss_length l x
  | .sl _, _ => rfl
  | .rows _, _ => rfl
theorem entss_length : ∀ (l : List Sh) (x : Sh.Ts l), (Sh.entss l x).length = Sh.nes l
  | [], _ => rfl
  | s :: l, x => by simp [Sh.entss, Sh.nes, ents_length s x.1, entss_length l x.2]
end

mutual
theorem ents_live : ∀ (s : Sh) (y : s.T) (e : Ent), e ∈ s.ents y → ∃ blk : Blk, e = .live blk ∧ blk.rw = false ∧ (∀ l, blk.cells ≠ .lit l)
  | .int _, _, e, h => by simp [Sh.ents] at h
  | .bool, _, e, h => by simp [Sh.ents] at h
  | .str, _, e, h => by simp [Sh.ents] at h
  | .st l, y, e, h => entss_live l y e (by simpa [Sh.ents] using h)
  | .sl _, y, e, h => by simp [Sh.ents] at h; subst h; exact ⟨_, rfl, rfl, by simp⟩
  | .rows _, y, e, h => by simp [Sh.ents] at h; subst h; exact ⟨_, rfl, rfl, by simp⟩
theorem entss_live : ∀ (l : List Sh) (y : Sh.Ts l) (e : Ent), e ∈ Sh.entss l y → ∃ blk : Blk, e = .live blk ∧ blk.rw = false ∧ (∀ l, blk.cells ≠ .lit l)
  | [], _, e, h => by simp [Sh.entss] at h
  | s :: l, y, e, h => by
    simp only [Sh.entss, List.mem_append] at h
    rcases h with h | h
    · exact ents_live s y.1 e h
    · exact entss_live l y.2 e h
end

/-- An argument. -/
def Sh.arg : (s : Sh) → s.T → Nat → AV
  | .int k, x, _ => .val (.int k x)
  | .bool, b, _ => .val (.bool b)
  | .str, s, _ => .val (.string s)
  | .st l, x, n => .agg (Sh.cellss l x n)
  | .sl _, l, n => .slc n 0 l.length .low
  | .rows _, l, n => .slc n 0 l.length .low
def Sh.args : (l : List Sh) → Sh.Ts l → Nat → List AV
  | [], _, _ => []
  | s :: l, x, n => s.arg x.1 n :: Sh.args l x.2 (n + s.ne)
end Go.Ab
/-
  CORE 30: the arguments of a row, opened: what is read as data is a pure value, its slices blocks that lay there.
-/
set_option linter.unusedVariables false
set_option linter.unusedSimpArgs false
namespace Go.Ab

mutual
/-- Does a type have the shape? -/
def Sh.fits (P : Program) : Sh → TypeId → Bool
  | .int k, t => decide (P.cellsOf t = 1) && (match P.underlying t with
    | some (.int k') => decide (k' = k)
    | _ => false)
  | .bool, t => decide (P.cellsOf t = 1) && (match P.underlying t with
    | some .bool => true
    | _ => false)
  | .str, t => decide (P.cellsOf t = 1) && (match P.underlying t with
    | some .string => true
    | _ => false)
  | .st l, t => decide (P.cellsOf t = Sh.ws l) && (match P.underlying t with
    | some (.struct fs) => Sh.fitsF P l fs.toList 0
    | some (.array n e) => decide (l.length = n) && Sh.fitsE P l e
    | _ => false)
  | .sl e, t => decide (P.cellsOf t = 1) && (match P.underlying t with
    | some (.slice el) => Sh.flat e && Sh.fits P e el && decide (0 < Sh.w e)
    | _ => false)
  | .rows e, t => decide (P.cellsOf t = 1) && (match P.underlying t with
    | some (.slice el) => decide (P.cellsOf el = 1) && (match P.underlying el with
      | some (.slice el2) => Sh.flat e && Sh.fits P e el2 && decide (Sh.w e = 1)
      | _ => false)
    | _ => false)
def Sh.fitsF (P : Program) : List Sh → List Field → Nat → Bool
  | [], [], _ => true
  | s :: l, f :: fs, o => decide (f.offset = o) && Sh.fits P s f.type && Sh.fitsF P l fs (o + Sh.w s)
  | _, _, _ => false
def Sh.fitsE (P : Program) : List Sh → TypeId → Bool
  | [], _ => true
  | s :: l, e => Sh.fits P s e && Sh.fitsE P l e
end

theorem fits_cells {P : Program} {s : Sh} {t : TypeId} (h : s.fits P t = true) : P.cellsOf t = s.w := by
  cases s <;> simp only [Sh.fits, Bool.and_eq_true, decide_eq_true_eq] at h <;> simp [Sh.w, h.1]

theorem wf_range {k : IntKind} {n : Int} (h : (Lit.int k n).wf = true) : k.min ≤ n ∧ n ≤ k.max := by
  simpa [Lit.wf] using h

section
variable {H : Type} {enc : TypeId × Value → H} {P : Program} {W : World} {sp : Nat → Bool}

mutual
theorem flat_open : ∀ (s : Sh) (fuel : Nat) (t : TypeId) (cs : List Value) (x : DataW H × List MemPlace), s.flat = true → s.fits P t = true → DataW.trod enc P W 0 sp true fuel t cs = some x → ∃ y : s.T, s.ok y ∧ cs = s.enc y
  | .int k, fuel, t, cs, x, _, hf, h => by
    simp only [Sh.fits, Bool.and_eq_true] at hf
    have hf := hf.2
    split at hf
    · rename_i k' hu
      have hk : k' = k := by simpa using hf
      subst hk
      obtain ⟨n, h1, _, h3⟩ := DataW.trod_int hu h
      exact ⟨n, by simp only [Sh.ok]; exact wf_range h3, h1⟩
    · cases hf
  | .bool, fuel, t, cs, x, _, hf, h => by
    simp only [Sh.fits, Bool.and_eq_true] at hf
    have hf := hf.2
    split at hf
    · rename_i hu
      obtain ⟨b, h1, _⟩ := DataW.trod_bool hu h
      exact ⟨b, by simp [Sh.ok], h1⟩
    · cases hf
  | .str, fuel, t, cs, x, _, hf, h => by
    simp only [Sh.fits, Bool.and_eq_true] at hf
    have hf := hf.2
    split at hf
    · rename_i hu
      obtain ⟨b, h1, _, h2⟩ := DataW.trod_string hu h
      exact ⟨b, by simp only [Sh.ok]; simpa [maxLen] using h2, h1⟩
    · cases hf
  | .st l, fuel, t, cs, x, hfl, hf, h => by
    simp only [Sh.fits, Bool.and_eq_true, decide_eq_true_eq] at hf
    obtain ⟨hw, hf⟩ := hf
    simp only [Sh.flat] at hfl
    split at hf
    · rename_i fs hu
      obtain ⟨xs, n, _, _, hlen, hxl, hat⟩ := DataW.trod_struct hu h
      obtain ⟨y, h1, h2⟩ := flat_fields l fs.toList 0 n cs xs hfl hf (by simpa using hxl) (fun i f hi => hat i f (by simpa using hi)) (by rw [hlen, hw]; simp)
      exact ⟨y, by simpa [Sh.ok] using h1, by simpa [Sh.enc] using h2⟩
    · rename_i n e hu
      simp only [Bool.and_eq_true, decide_eq_true_eq] at hf
      obtain ⟨xs, m, _, _, hlen, hxl, hat⟩ := DataW.trod_array hu h
      obtain ⟨y, h1, h2⟩ := flat_elems l e 0 m cs xs hfl hf.2 (fun i hi => by
        have := hat i (by omega)
        rw [Nat.zero_add]; exact this) (by omega) (by rw [hlen, hw]; simp)
      exact ⟨y, by simpa [Sh.ok] using h1, by simpa [Sh.enc] using h2⟩
    · cases hf
  | .sl _, _, _, _, _, h, _, _ => by simp [Sh.flat] at h
  | .rows _, _, _, _, _, h, _, _ => by simp [Sh.flat] at h
theorem flat_fields : ∀ (l : List Sh) (fs : List Field) (o n : Nat) (cs : List Value) (xs : List (DataW H × List MemPlace)), Sh.flats l = true → Sh.fitsF P l fs o = true → xs.length = fs.length →
    (∀ (i : Nat) (f : Field), fs[i]? = some f → DataW.trod enc P W 0 sp true n f.type ((cs.drop f.offset).take (P.cellsOf f.type)) = xs[i]?) → cs.length = o + Sh.ws l → ∃ y : Sh.Ts l, Sh.oks l y ∧ cs.drop o = Sh.encs l y
  | [], [], o, n, cs, xs, _, _, _, _, hl => ⟨(), by simp [Sh.oks], by simp [Sh.encs, Sh.ws] at hl ⊢; omega⟩
  | [], _ :: _, o, n, cs, xs, _, hf, _, _, _ => by simp [Sh.fitsF] at hf
  | _ :: _, [], o, n, cs, xs, _, hf, _, _, _ => by simp [Sh.fitsF] at hf
  | s :: l, f :: fs, o, n, cs, xs, hfl, hf, hx, hat, hl => by
    simp only [Sh.flats, Bool.and_eq_true] at hfl
    simp only [Sh.fitsF, Bool.and_eq_true, decide_eq_true_eq] at hf
    obtain ⟨⟨ho, hfs⟩, hfr⟩ := hf
    cases xs with
    | nil => simp at hx
    | cons x xs =>
      have h0 := hat 0 f rfl
      rw [ho, fits_cells hfs] at h0
      obtain ⟨y, h1, h2⟩ := flat_open s n f.type _ x hfl.1 hfs h0
      obtain ⟨ys, h3, h4⟩ := flat_fields l fs (o + s.w) n cs xs hfl.2 hfr (by simpa using hx) (fun i g hi => by simpa using hat (i + 1) g (by simpa using hi)) (by simp only [Sh.ws] at hl; omega)
      refine ⟨(y, ys), by simp only [Sh.oks]; exact ⟨h1, h3⟩, ?_⟩
      simp only [Sh.encs]
      rw [← h2, ← h4, ← List.drop_drop, List.take_append_drop]
theorem flat_elems : ∀ (l : List Sh) (e : TypeId) (k n : Nat) (cs : List Value) (xs : List (DataW H × List MemPlace)), Sh.flats l = true → Sh.fitsE P l e = true →
    (∀ (i : Nat), i < l.length → DataW.trod enc P W 0 sp true n e ((cs.drop ((k + i) * P.cellsOf e)).take (P.cellsOf e)) = xs[k + i]?) → k + l.length ≤ xs.length → cs.length = k * P.cellsOf e + Sh.ws l → ∃ y : Sh.Ts l, Sh.oks l y ∧ cs.drop (k * P.cellsOf e) = Sh.encs l y
  | [], e, k, n, cs, xs, _, _, _, _, hl => ⟨(), by simp [Sh.oks], by simp [Sh.encs, Sh.ws] at hl ⊢; omega⟩
  | s :: l, e, k, n, cs, xs, hfl, hf, hat, hx, hl => by
    simp only [Sh.flats, Bool.and_eq_true] at hfl
    simp only [Sh.fitsE, Bool.and_eq_true] at hf
    have hc := fits_cells hf.1
    have h0 := hat 0 (by simp)
    simp only [Nat.add_zero] at h0
    simp only [List.length_cons] at hx
    obtain ⟨x, hx0⟩ : ∃ x, xs[k]? = some x := ⟨xs[k]'(by omega), List.getElem?_eq_getElem _⟩
    rw [hx0] at h0
    obtain ⟨y, h1, h2⟩ := flat_open s n e _ x hfl.1 hf.1 h0
    obtain ⟨ys, h3, h4⟩ := flat_elems l e (k + 1) n cs xs hfl.2 hf.2 (fun i hi => by
      have := hat (i + 1) (by simpa using hi)
      rw [show k + (i + 1) = k + 1 + i by omega] at this; exact this) (by omega) (by simp only [Sh.ws] at hl; rw [Nat.add_mul, hl, hc]; omega)
    refine ⟨(y, ys), by simp only [Sh.oks]; exact ⟨h1, h3⟩, ?_⟩
    simp only [Sh.encs]
    rw [← h2, ← h4, Nat.add_mul, Nat.one_mul, ← List.drop_drop, List.take_append_drop]
end

theorem cells?_spec {a : Addr} {n : Nat} {cs : List Value} (h : W.cells? 0 a n = some cs) : cs.length = n ∧ ∀ (j : Nat) (v : Value), cs[j]? = some v → W.cell? (a.add j) = some v := by
  simp only [World.cells?, Nat.zero_le, if_true] at h
  have key : ∀ (l : List Nat) (cs : List Value), (l.mapM fun i => W.cell? (a.add i)) = some cs → cs.length = l.length ∧ ∀ (j : Nat) (v : Value), cs[j]? = some v → ∃ i, l[j]? = some i ∧ W.cell? (a.add i) = some v := by
    intro l
    induction l with
    | nil => intro cs h; simp at h; subst h; exact ⟨rfl, fun j v hj => by simp at hj⟩
    | cons i l ih =>
      intro cs h
      simp only [List.mapM_cons, Option.bind_eq_bind, Option.bind_eq_some_iff] at h
      obtain ⟨v0, h0, cs', h1, h2⟩ := h
      simp at h2; subst h2
      obtain ⟨i1, i2⟩ := ih cs' h1
      refine ⟨by simp [i1], fun j v hj => ?_⟩
      cases j with
      | zero => simp at hj; subst hj; exact ⟨i, rfl, h0⟩
      | succ j => simpa using i2 j v (by simpa using hj)
  obtain ⟨h1, h2⟩ := key _ cs h
  refine ⟨by simpa using h1, fun j v hj => ?_⟩
  obtain ⟨i, h3, h4⟩ := h2 j v hj
  have : i = j := by
    rw [List.getElem?_eq_some_iff] at h3
    obtain ⟨h5, h6⟩ := h3
    simpa using h6.symm
  rw [← this]; exact h4

theorem getElem?_flatMap_block {α : Type} (f : α → List Value) (w : Nat) (hw : 0 < w) : ∀ (l : List α), (∀ y ∈ l, (f y).length = w) → ∀ (j : Nat), (l.flatMap f)[j]? = (l[j / w]?).bind fun y => (f y)[j % w]?
  | [], _, j => by simp
  | y :: l, h, j => by
    have hy := h y (List.mem_cons_self ..)
    rw [List.flatMap_cons]
    by_cases hj : j < w
    · rw [List.getElem?_append_left (by omega), Nat.div_eq_of_lt hj, Nat.mod_eq_of_lt hj]; simp
    · rw [List.getElem?_append_right (by omega), hy, getElem?_flatMap_block f w hw l (fun z hz => h z (List.mem_cons_of_mem _ hz))]
      have e1 : j / w = (j - w) / w + 1 := by
        rw [Nat.div_eq_sub_div hw (by omega)]
      have e2 : j % w = (j - w) % w := by
        rw [Nat.mod_eq_sub_mod (by omega)]
      rw [e1, e2]; simp

/-- A slice of what holds no slice. -/
theorem slice_open {e : Sh} {el : TypeId} {n : Nat} {a : Addr} {len : Nat} {elems : List (DataW H × List MemPlace)} (hfl : e.flat = true) (hf : e.fits P el = true) (hw : 0 < e.w) (hlen : elems.length = len)
    (hat : ∀ i, i < len → (W.cells? 0 (a.add (i * P.cellsOf el)) (P.cellsOf el)).bind (DataW.trod enc P W 0 sp true n el) = elems[i]?) :
    ∃ y : List e.T, y.length = len ∧ (∀ z ∈ y, e.ok z) ∧ ∀ (j : Nat) (v : Value), (y.flatMap e.enc)[j]? = some v → W.cell? (a.add j) = some v := by
  have hc := fits_cells hf
  have key : ∀ k, k ≤ len → ∃ y : List e.T, y.length = k ∧ (∀ z ∈ y, e.ok z) ∧ ∀ (i : Nat) (z : e.T), y[i]? = some z → ∀ (j : Nat) (v : Value), (e.enc z)[j]? = some v → W.cell? (a.add (i * e.w + j)) = some v := by
    intro k
    induction k with
    | zero => intro _; exact ⟨[], rfl, by simp, by simp⟩
    | succ k ih =>
      intro hk
      obtain ⟨y, h1, h2, h3⟩ := ih (by omega)
      have h4 := hat k (by omega)
      obtain ⟨x, hx⟩ : ∃ x, elems[k]? = some x := ⟨elems[k]'(by omega), List.getElem?_eq_getElem _⟩
      rw [hx, Option.bind_eq_some_iff] at h4
      obtain ⟨cs, h5, h6⟩ := h4
      obtain ⟨z, h7, h8⟩ := flat_open e n el cs x hfl hf h6
      obtain ⟨h9, h10⟩ := cells?_spec h5
      refine ⟨y ++ [z], by simp [h1], fun u hu => ?_, fun i u hi j v hj => ?_⟩
      · rcases List.mem_append.1 hu with hu | hu
        · exact h2 u hu
        · simp at hu; subst hu; exact h7
      · by_cases hik : i < k
        · rw [List.getElem?_append_left (by omega)] at hi
          exact h3 i u hi j v hj
        · rw [List.getElem?_append_right (by omega)] at hi
          have : i = k := by
            rcases Nat.lt_or_ge i (k + 1) with h' | h'
            · omega
            · rw [List.getElem?_eq_none (by simp; omega)] at hi; cases hi
          subst this
          simp [h1] at hi; subst hi
          have := h10 j v (by rw [h8]; exact hj)
          rw [hc] at this
          rw [← this]
          congr 1
          unfold Addr.add
          by_cases q1 : i * e.w = 0
          · simp [q1]
          · by_cases q2 : j = 0
            · simp [q2, q1]
            · rw [if_neg (by omega), if_neg q1, if_neg q2]; simp [Nat.add_assoc]
  obtain ⟨y, h1, h2, h3⟩ := key len (Nat.le_refl _)
  refine ⟨y, h1, h2, fun j v hj => ?_⟩
  rw [getElem?_flatMap_block e.enc e.w hw y (fun z _ => enc_length e z hfl), Option.bind_eq_some_iff] at hj
  obtain ⟨z, h4, h5⟩ := hj
  have := h3 (j / e.w) z h4 (j % e.w) v h5
  rw [show j / e.w * e.w + j % e.w = j from Nat.div_add_mod' j e.w] at this
  exact this

theorem spot_none {a : Addr} {v : Value} {j : Nat} (h : W.cell? (a.add j) = some v) : j = 0 → a.spot = none := by
  intro hj; subst hj
  simp only [Addr.add, if_true, World.cell?] at h
  split at h
  · split at h
    · cases h
    · rename_i hs; simpa using hs
  · cases h

def Opens (P : Program) (W : World) (s : Sh) (cs : List Value) : Prop :=
  ∃ y : s.T, s.ok y ∧ ∃ c : List (Nat × Nat × Nat), c.length = s.ne ∧ ∀ (ρ : Ren) (next : Nat), ρ.base = W → (∀ (i : Nat) (d : Nat × Nat × Nat), c[i]? = some d → ρ (next + i) = some d) →
    VRs ρ (s.cells y next) cs ∧ ∀ (i : Nat) (blk : Blk), (s.ents y)[i]? = some (.live blk) → ∃ d : Nat × Nat × Nat, c[i]? = some d ∧ CellsAt ρ W d.1 d.2.1 blk.cells

def OpensL (P : Program) (W : World) (l : List Sh) (cs : List Value) : Prop :=
  ∃ y : Sh.Ts l, Sh.oks l y ∧ ∃ c : List (Nat × Nat × Nat), c.length = Sh.nes l ∧ ∀ (ρ : Ren) (next : Nat), ρ.base = W → (∀ (i : Nat) (d : Nat × Nat × Nat), c[i]? = some d → ρ (next + i) = some d) →
    VRs ρ (Sh.cellss l y next) cs ∧ ∀ (i : Nat) (blk : Blk), (Sh.entss l y)[i]? = some (.live blk) → ∃ d : Nat × Nat × Nat, c[i]? = some d ∧ CellsAt ρ W d.1 d.2.1 blk.cells

theorem OpensL.nil : OpensL P W [] [] := ⟨(), by simp [Sh.oks], [], rfl, fun ρ next _ _ => ⟨by simp [Sh.cellss, VRs], fun i blk h => by simp [Sh.entss] at h⟩⟩
theorem OpensL.cons {s : Sh} {l : List Sh} {c1 c2 : List Value} (h1 : Opens P W s c1) (h2 : OpensL P W l c2) : OpensL P W (s :: l) (c1 ++ c2) := by
  obtain ⟨y, o1, d1, l1, f1⟩ := h1
  obtain ⟨z, o2, d2, l2, f2⟩ := h2
  refine ⟨(y, z), by simp only [Sh.oks]; exact ⟨o1, o2⟩, d1 ++ d2, by simp [Sh.nes, l1, l2], fun ρ next hb hρ => ?_⟩
  obtain ⟨a1, a2⟩ := f1 ρ next hb fun i d hi => hρ i d (by rw [List.getElem?_append_left]; exact hi; exact (List.getElem?_eq_some_iff.1 hi).1)
  obtain ⟨b1, b2⟩ := f2 ρ (next + s.ne) hb fun i d hi => by
    have := hρ (s.ne + i) d (by rw [List.getElem?_append_right (by omega), l1, Nat.add_sub_cancel_left]; exact hi)
    rw [Nat.add_assoc]; exact this
  refine ⟨by simp only [Sh.cellss]; exact a1.append b1, fun i blk hi => ?_⟩
  simp only [Sh.entss] at hi
  have el := ents_length s y
  by_cases hil : i < s.ne
  · rw [List.getElem?_append_left (by omega)] at hi
    obtain ⟨d, h3, h4⟩ := a2 i blk hi
    exact ⟨d, by rw [List.getElem?_append_left (by omega)]; exact h3, h4⟩
  · rw [List.getElem?_append_right (by omega), el] at hi
    obtain ⟨d, h3, h4⟩ := b2 (i - s.ne) blk hi
    exact ⟨d, by rw [List.getElem?_append_right (by omega), l1]; exact h3, h4⟩
end

end Go.Ab
/-
  CORE 31: the arguments of a row, opened: any shape.
-/
set_option linter.unusedVariables false
set_option linter.unusedSimpArgs false
namespace Go.Ab
open Go.ChangeShapes Go.RowKit

section
variable {H : Type} {enc : TypeId × Value → H} {P : Program} {W : World}

theorem add_none {a : Addr} (h : a.spot = none) (j : Nat) : a.add j = ⟨a.block, a.off + j, none⟩ := by
  unfold Addr.add
  split
  · rename_i h0; subst h0; cases a; simp at h; subst h; rfl
  · first | rfl | (rw [h]; done) | (simp [h])

/-- A slice that is read with all it may grow over: where it may hold anything, it lies at a plain place. -/
theorem slice_spot {e : Sh} {el : TypeId} {n : Nat} {a : Addr} {len cap : Nat} {elems rest : List (DataW H × List MemPlace)} (hw : 0 < P.cellsOf el) (hlc : len ≤ cap) (hlen : elems.length = len) (hrl : rest.length = cap - len)
    (hat : ∀ i, i < len → (W.cells? 0 (a.add (i * P.cellsOf el)) (P.cellsOf el)).bind (DataW.trod enc P W 0 (fun _ => true) true n el) = elems[i]?)
    (hrt : ∀ j, j < cap - len → (W.cells? 0 (a.add ((len + j) * P.cellsOf el)) (P.cellsOf el)).bind (DataW.trod enc P W 0 (fun _ => true) true n el) = rest[j]?) : cap = 0 ∨ a.spot = none := by
  rcases Nat.eq_zero_or_pos cap with h0 | h0
  · exact .inl h0
  refine .inr ?_
  have key : ∀ (x : Option (DataW H × List MemPlace)), (W.cells? 0 (a.add 0) (P.cellsOf el)).bind (DataW.trod enc P W 0 (fun _ => true) true n el) = x → x ≠ none → a.spot = none := by
    intro x hx hne
    cases hc : W.cells? 0 (a.add 0) (P.cellsOf el) with
    | none => rw [hc] at hx; exact absurd hx.symm hne
    | some cs =>
      obtain ⟨h1, h2⟩ := cells?_spec hc
      have h3 := h2 0 cs[0] (List.getElem?_eq_getElem (by omega))
      have : (a.add 0).add 0 = a.add 0 := by simp [Addr.add]
      rw [this] at h3
      exact spot_none h3 rfl
  by_cases hl : 0 < len
  · have := hat 0 hl
    rw [Nat.zero_mul] at this
    exact key _ this (by rw [List.getElem?_eq_getElem (by omega)]; simp)
  · have := hrt 0 (by omega)
    rw [show len + 0 = 0 by omega, Nat.zero_mul] at this
    exact key _ this (by rw [List.getElem?_eq_getElem (by omega)]; simp)

theorem flatMap_one_length {α : Type} (f : α → List Value) : ∀ (l : List α), (∀ y ∈ l, (f y).length = 1) → (l.flatMap f).length = l.length
  | [], _ => rfl
  | y :: l, h => by
    rw [List.flatMap_cons, List.length_append, h y (List.mem_cons_self ..), flatMap_one_length f l fun z hz => h z (List.mem_cons_of_mem _ hz), List.length_cons, Nat.add_comm]

/-- One row of rows. -/
theorem row_open {e : Sh} {el el2 : TypeId} (hu : P.underlying el = some (.slice el2)) (hfl : e.flat = true) (hf : e.fits P el2 = true) (hw : e.w = 1) {fuel : Nat} {cs : List Value} {x : DataW H × List MemPlace}
    (h : DataW.trod enc P W 0 (fun _ => true) true fuel el cs = some x) : ∃ y : List e.T, ((∀ z ∈ y, e.ok z) ∧ y.length ≤ 9223372036854775807) ∧ ∃ cv, cs = [cv] ∧ RowIn W cv (y.flatMap e.enc) := by
  rcases DataW.trod_slice hu h with ⟨h1, _⟩ | ⟨a, len, cap, elems, rest, n, _, h1, _, _, hlc, hcm, hel, hat, hrt, _⟩
  · exact ⟨[], ⟨by simp, by simp⟩, _, h1, .inl ⟨rfl, none, rfl⟩⟩
  · obtain ⟨y, h2, h3, h4⟩ := slice_open hfl hf (by omega) hel hat
    have hc := fits_cells hf
    have hlen : (y.flatMap e.enc).length = len := by rw [flatMap_one_length _ _ fun z _ => by rw [enc_length e z hfl, hw], h2]
    refine ⟨y, ⟨h3, by simp only [maxLen] at hcm; omega⟩, _, h1, ?_⟩
    obtain ⟨hr1, hr2⟩ := hrt rfl
    rcases slice_spot (e := e) (by omega) hlc hel hr1 hat hr2 with h5 | h5
    · have hl0 : len = 0 := by omega
      subst hl0; subst h5
      exact .inl ⟨List.length_eq_zero_iff.1 hlen, _, rfl⟩
    · refine .inr ⟨a.block, a.off, cap, ?_, by omega, fun j v hj => ?_⟩
      · rw [hlen]; cases a; simp at h5; subst h5; rfl
      · rw [← add_none h5]; exact h4 j v hj

theorem Opens.flat0 {s : Sh} {cs : List Value} {y : s.T} (hy : s.ok y) (hn : s.ne = 0) (hv : ∀ (ρ : Ren) next, VRs ρ (s.cells y next) cs) : Opens P W s cs :=
  ⟨y, hy, [], hn.symm, fun ρ next _ _ => ⟨hv ρ next, fun i blk hi => by
    have := ents_length s y
    rw [hn] at this
    rw [List.length_eq_zero_iff.1 this] at hi
    simp at hi⟩⟩

mutual
theorem open_sh : ∀ (s : Sh) (fuel : Nat) (t : TypeId) (cs : List Value) (x : DataW H × List MemPlace), s.fits P t = true → DataW.trod enc P W 0 (fun _ => true) true fuel t cs = some x → Opens P W s cs
  | .int k, fuel, t, cs, x, hf, h => by
    obtain ⟨y, h1, h2⟩ := flat_open (.int k) fuel t cs x rfl hf h
    exact .flat0 h1 rfl fun ρ next => by rw [h2]; simp [Sh.cells, Sh.enc, VRs, VR]
  | .bool, fuel, t, cs, x, hf, h => by
    obtain ⟨y, h1, h2⟩ := flat_open .bool fuel t cs x rfl hf h
    exact .flat0 h1 rfl fun ρ next => by rw [h2]; simp [Sh.cells, Sh.enc, VRs, VR]
  | .str, fuel, t, cs, x, hf, h => by
    obtain ⟨y, h1, h2⟩ := flat_open .str fuel t cs x rfl hf h
    exact .flat0 h1 rfl fun ρ next => by rw [h2]; simp [Sh.cells, Sh.enc, VRs, VR]
  | .st l, fuel, t, cs, x, hf, h => by
    simp only [Sh.fits, Bool.and_eq_true, decide_eq_true_eq] at hf
    obtain ⟨hw, hf⟩ := hf
    have key : OpensL P W l cs → Opens P W (.st l) cs := by
      rintro ⟨y, h1, c, h2, h3⟩
      exact ⟨y, h1, c, h2, h3⟩
    refine key ?_
    split at hf
    · rename_i fs hu
      obtain ⟨xs, n, _, _, hlen, hxl, hat⟩ := DataW.trod_struct hu h
      exact open_fields l fs.toList 0 n cs xs hf (by simpa using hxl) (fun i f hi => hat i f (by simpa using hi)) (by rw [hlen, hw]; simp)
    · rename_i n e hu
      simp only [Bool.and_eq_true, decide_eq_true_eq] at hf
      obtain ⟨xs, m, _, _, hlen, hxl, hat⟩ := DataW.trod_array hu h
      have := open_elems l e 0 m cs xs hf.2 (fun i hi => by
        have := hat i (by omega)
        rw [Nat.zero_add]; exact this) (by omega) (by rw [hlen, hw]; simp)
      simpa using this
    · cases hf
  | .sl e, fuel, t, cs, x, hf, h => by
    simp only [Sh.fits, Bool.and_eq_true, decide_eq_true_eq] at hf
    obtain ⟨_, hf⟩ := hf
    split at hf
    case h_2 => cases hf
    rename_i el hu
    simp only [Bool.and_eq_true, decide_eq_true_eq] at hf
    obtain ⟨⟨hfl, hfe⟩, hw⟩ := hf
    have hc := fits_cells hfe
    rcases DataW.trod_slice hu h with ⟨h1, _⟩ | ⟨a, len, cap, elems, rest, n, _, h1, _, _, hlc, hcm, hel, hat, hrt, _⟩
    · refine ⟨[], by simp [Sh.ok], [(0, 0, 0)], rfl, fun ρ next hb hρ => ⟨?_, fun i blk hi => ?_⟩⟩
      · simp only [Sh.cells, h1, VRs, VR]
        exact ⟨.inr ⟨rfl, none, rfl⟩, trivial⟩
      · simp only [Sh.ents] at hi
        cases i with
        | succ i => simp at hi
        | zero =>
          simp at hi; subst hi
          exact ⟨(0, 0, 0), rfl, fun j v hj => by simp [Sh.flatl] at hj⟩
    · obtain ⟨y, h2, h3, h4⟩ := slice_open hfl hfe hw hel hat
      obtain ⟨hr1, hr2⟩ := hrt rfl
      have hsp := slice_spot (e := e) (by omega) hlc hel hr1 hat hr2
      refine ⟨y, by simp only [Sh.ok]; exact ⟨h3, by simp only [maxLen] at hcm; omega⟩, [(a.block, a.off, 0)], rfl, fun ρ next hb hρ => ⟨?_, fun i blk hi => ?_⟩⟩
      · simp only [Sh.cells, h1, VRs, VR]
        refine ⟨?_, trivial⟩
        rcases hsp with h5 | h5
        · refine .inr ⟨by rw [h2]; omega, some a, ?_⟩
          rw [h5, show len = 0 by omega]
        · refine .inl ⟨a.block, a.off, 0, cap, by simpa using hρ 0 _ rfl, by omega, ?_⟩
          rw [h2]; cases a; simp at h5; subst h5; rfl
      · simp only [Sh.ents] at hi
        cases i with
        | succ i => simp at hi
        | zero =>
          simp at hi; subst hi
          refine ⟨(a.block, a.off, 0), rfl, fun j v hj => ?_⟩
          rcases hsp with h5 | h5
          · have : y = [] := List.length_eq_zero_iff.1 (by omega)
            subst this; simp [Sh.flatl] at hj
          · show W.cell? ⟨a.block, a.off + j, none⟩ = some v
            rw [← add_none h5]; exact h4 j v hj
  | .rows e, fuel, t, cs, x, hf, h => by
    simp only [Sh.fits, Bool.and_eq_true, decide_eq_true_eq] at hf
    obtain ⟨_, hf⟩ := hf
    split at hf
    case h_2 => cases hf
    rename_i el hu
    simp only [Bool.and_eq_true, decide_eq_true_eq] at hf
    obtain ⟨hc1, hf⟩ := hf
    split at hf
    case h_2 => cases hf
    rename_i el2 hu2
    simp only [Bool.and_eq_true, decide_eq_true_eq] at hf
    obtain ⟨⟨hfl, hfe⟩, hw⟩ := hf
    rcases DataW.trod_slice hu h with ⟨h1, _⟩ | ⟨a, len, cap, elems, rest, n, _, h1, _, _, hlc, hcm, hel, hat, hrt, _⟩
    · refine ⟨[], by simp [Sh.ok], [(0, 0, 0)], rfl, fun ρ next hb hρ => ⟨?_, fun i blk hi => ?_⟩⟩
      · simp only [Sh.cells, h1, VRs, VR]
        exact ⟨.inr ⟨rfl, none, rfl⟩, trivial⟩
      · simp only [Sh.ents] at hi
        cases i with
        | succ i => simp at hi
        | zero =>
          simp at hi; subst hi
          exact ⟨(0, 0, 0), rfl, fun j v hj => by simp at hj⟩
    · obtain ⟨hr1, hr2⟩ := hrt rfl
      have hsp := slice_spot (e := e) (by omega) hlc hel hr1 hat hr2
      have key : ∀ k, k ≤ len → ∃ y : List (List e.T), y.length = k ∧ (∀ r ∈ y, (∀ z ∈ r, e.ok z) ∧ r.length ≤ 9223372036854775807) ∧ ∀ (i : Nat) (r : List e.T), y[i]? = some r → ∃ cv, W.cell? (a.add i) = some cv ∧ RowIn W cv (r.flatMap e.enc) := by
        intro k
        induction k with
        | zero => intro _; exact ⟨[], rfl, by simp, by simp⟩
        | succ k ih =>
          intro hk
          obtain ⟨y, h2, h3, h4⟩ := ih (by omega)
          have h5 := hat k (by omega)
          obtain ⟨x, hx⟩ : ∃ x, elems[k]? = some x := ⟨elems[k]'(by omega), List.getElem?_eq_getElem _⟩
          rw [hx, Option.bind_eq_some_iff, hc1, Nat.mul_one] at h5
          obtain ⟨cs', h6, h7⟩ := h5
          obtain ⟨r, h8, cv, h9, h10⟩ := row_open hu2 hfl hfe hw h7
          obtain ⟨_, h11⟩ := cells?_spec h6
          refine ⟨y ++ [r], by simp [h2], fun r' hr' => ?_, fun i r' hi => ?_⟩
          · rcases List.mem_append.1 hr' with hr' | hr'
            · exact h3 r' hr'
            · simp at hr'; subst hr'; exact h8
          · by_cases hik : i < k
            · rw [List.getElem?_append_left (by omega)] at hi
              exact h4 i r' hi
            · rw [List.getElem?_append_right (by omega)] at hi
              have : i = k := by
                rcases Nat.lt_or_ge i (k + 1) with h' | h'
                · omega
                · rw [List.getElem?_eq_none (by simp; omega)] at hi; cases hi
              subst this
              simp [h2] at hi; subst hi
              have := h11 0 cv (by rw [h9]; rfl)
              exact ⟨cv, by simpa [Addr.add] using this, h10⟩
      obtain ⟨y, h2, h3, h4⟩ := key len (Nat.le_refl _)
      refine ⟨y, by simp only [Sh.ok]; exact ⟨h3, by simp only [maxLen] at hcm; omega⟩, [(a.block, a.off, 0)], rfl, fun ρ next hb hρ => ⟨?_, fun i blk hi => ?_⟩⟩
      · simp only [Sh.cells, h1, VRs, VR]
        refine ⟨?_, trivial⟩
        rcases hsp with h5 | h5
        · refine .inr ⟨by rw [h2]; omega, some a, ?_⟩
          rw [h5, show len = 0 by omega]
        · refine .inl ⟨a.block, a.off, 0, cap, by simpa using hρ 0 _ rfl, by omega, ?_⟩
          rw [h2]; cases a; simp at h5; subst h5; rfl
      · simp only [Sh.ents] at hi
        cases i with
        | succ i => simp at hi
        | zero =>
          simp at hi; subst hi
          refine ⟨(a.block, a.off, 0), rfl, fun j r hj => ?_⟩
          obtain ⟨cv, h6, h7⟩ := h4 j r hj
          refine ⟨cv, ?_, by rw [hb]; exact h7⟩
          rcases hsp with h5 | h5
          · have : y = [] := List.length_eq_zero_iff.1 (by omega)
            subst this; simp at hj
          · show W.cell? ⟨a.block, a.off + j, none⟩ = some cv
            rw [← add_none h5]; exact h6
theorem open_fields : ∀ (l : List Sh) (fs : List Field) (o n : Nat) (cs : List Value) (xs : List (DataW H × List MemPlace)), Sh.fitsF P l fs o = true → xs.length = fs.length →
    (∀ (i : Nat) (f : Field), fs[i]? = some f → DataW.trod enc P W 0 (fun _ => true) true n f.type ((cs.drop f.offset).take (P.cellsOf f.type)) = xs[i]?) → cs.length = o + Sh.ws l → OpensL P W l (cs.drop o)
  | [], [], o, n, cs, xs, _, _, _, hl => by
    have : cs.drop o = [] := by simp [Sh.ws] at hl ⊢; omega
    rw [this]; exact .nil
  | [], _ :: _, o, n, cs, xs, hf, _, _, _ => by simp [Sh.fitsF] at hf
  | _ :: _, [], o, n, cs, xs, hf, _, _, _ => by simp [Sh.fitsF] at hf
  | s :: l, f :: fs, o, n, cs, xs, hf, hx, hat, hl => by
    simp only [Sh.fitsF, Bool.and_eq_true, decide_eq_true_eq] at hf
    obtain ⟨⟨ho, hfs⟩, hfr⟩ := hf
    cases xs with
    | nil => simp at hx
    | cons x xs =>
      have h0 := hat 0 f rfl
      rw [ho, fits_cells hfs] at h0
      have h1 := open_sh s n f.type _ x hfs h0
      have h2 := open_fields l fs (o + s.w) n cs xs hfr (by simpa using hx) (fun i g hi => by simpa using hat (i + 1) g (by simpa using hi)) (by simp only [Sh.ws] at hl; omega)
      have := OpensL.cons h1 h2
      rwa [← List.drop_drop, List.take_append_drop] at this
theorem open_elems : ∀ (l : List Sh) (e : TypeId) (k n : Nat) (cs : List Value) (xs : List (DataW H × List MemPlace)), Sh.fitsE P l e = true →
    (∀ (i : Nat), i < l.length → DataW.trod enc P W 0 (fun _ => true) true n e ((cs.drop ((k + i) * P.cellsOf e)).take (P.cellsOf e)) = xs[k + i]?) → k + l.length ≤ xs.length → cs.length = k * P.cellsOf e + Sh.ws l → OpensL P W l (cs.drop (k * P.cellsOf e))
  | [], e, k, n, cs, xs, _, _, _, hl => by
    have : cs.drop (k * P.cellsOf e) = [] := by simp [Sh.ws] at hl ⊢; omega
    rw [this]; exact .nil
  | s :: l, e, k, n, cs, xs, hf, hat, hx, hl => by
    simp only [Sh.fitsE, Bool.and_eq_true] at hf
    have hc := fits_cells hf.1
    have h0 := hat 0 (by simp)
    simp only [Nat.add_zero] at h0
    simp only [List.length_cons] at hx
    obtain ⟨x, hx0⟩ : ∃ x, xs[k]? = some x := ⟨xs[k]'(by omega), List.getElem?_eq_getElem _⟩
    rw [hx0] at h0
    have h1 := open_sh s n e _ x hf.1 h0
    have h2 := open_elems l e (k + 1) n cs xs hf.2 (fun i hi => by
      have := hat (i + 1) (by simpa using hi)
      rw [show k + (i + 1) = k + 1 + i by omega] at this; exact this) (by omega) (by simp only [Sh.ws] at hl; rw [Nat.add_mul, hl, hc]; omega)
    have := OpensL.cons h1 h2
    rwa [Nat.add_mul, Nat.one_mul, ← List.drop_drop, List.take_append_drop] at this
end
end
end Go.Ab
/-
  CORE 32: from a contract to what a row asks of its law's call: it ends with 'true', and nothing that was there has turned.
-/
set_option linter.unusedVariables false
set_option linter.unusedSimpArgs false
namespace Go.Ab
open Go.ChangeShapes Go.RowKit Go.WideShapes

def Sh.fitsT (P : Program) : List Sh → List TypeId → Bool
  | [], [] => true
  | s :: l, t :: ts => s.fits P t && Sh.fitsT P l ts
  | _, _ => false

section
variable {H : Type} {enc : TypeId × Value → H} {P : Program} {W : World}

def OpensA (P : Program) (W : World) (l : List Sh) (vs : List Value) : Prop :=
  ∃ y : Sh.Ts l, Sh.oks l y ∧ ∃ c : List (Nat × Nat × Nat), c.length = Sh.nes l ∧ ∀ (ρ : Ren) (next : Nat), ρ.base = W → (∀ (i : Nat) (d : Nat × Nat × Nat), c[i]? = some d → ρ (next + i) = some d) →
    VRs ρ (Sh.args l y next) vs ∧ ∀ (i : Nat) (blk : Blk), (Sh.entss l y)[i]? = some (.live blk) → ∃ d : Nat × Nat × Nat, c[i]? = some d ∧ CellsAt ρ W d.1 d.2.1 blk.cells

theorem arg_open {s : Sh} {t : TypeId} {v : Value} {d : DataW H} {ps : List MemPlace} {base : Nat} (hf : s.fits P t = true) (hval : Value.okWide P W .any base t v) (h : DataW.Trod enc P W 0 (fun _ => true) true t v d ps) : Opens P W s v.cells.toList ∧ ∀ (ρ : Ren) (y : s.T) next, VRs ρ (s.cells y next) v.cells.toList → VR ρ (s.arg y next) v := by
  have hf0 := hf
  obtain ⟨fuel, hd⟩ := h
  refine ⟨open_sh s fuel t _ _ hf hd, ?_⟩
  intro ρ y next hv
  have one : ∀ (a : AV), v.cells = #[v] → VRs ρ [a] v.cells.toList → VR ρ a v := fun a h1 h2 => by
    rw [h1] at h2; simpa [VRs] using h2
  cases s with
  | int k =>
    simp only [Sh.fits, Bool.and_eq_true] at hf
    have hf := hf.2
    split at hf
    · rename_i hu
      obtain ⟨n, rfl⟩ := okWide_int hu hval
      exact one _ rfl hv
    · cases hf
  | bool =>
    simp only [Sh.fits, Bool.and_eq_true] at hf
    have hf := hf.2
    split at hf
    · rename_i hu
      obtain ⟨n, rfl⟩ := okWide_bool hu hval
      exact one _ rfl hv
    · cases hf
  | str =>
    simp only [Sh.fits, Bool.and_eq_true] at hf
    have hf := hf.2
    split at hf
    · rename_i hu
      obtain ⟨n, rfl⟩ := okWide_string hu hval
      exact one _ rfl hv
    · cases hf
  | sl e =>
    simp only [Sh.fits, Bool.and_eq_true] at hf
    have hf := hf.2
    split at hf
    · rename_i hu
      obtain ⟨a, len, cap, rfl⟩ := okWide_slice hu hval
      exact one _ rfl hv
    · cases hf
  | rows e =>
    simp only [Sh.fits, Bool.and_eq_true] at hf
    have hf := hf.2
    split at hf
    · rename_i hu
      obtain ⟨a, len, cap, rfl⟩ := okWide_slice hu hval
      exact one _ rfl hv
    · cases hf
  | st l =>
    have : ∃ cs, v = .agg cs := by
      simp only [Sh.fits, Bool.and_eq_true] at hf
      have hf := hf.2
      split at hf
      · rename_i fs hu
        simp only [Value.okWide, hu] at hval
        obtain ⟨cs, h1, _⟩ := hval
        exact ⟨cs, h1⟩
      · rename_i n e hu
        simp only [Value.okWide, hu] at hval
        obtain ⟨cs, h1, _⟩ := hval
        exact ⟨cs, h1⟩
      · cases hf
    obtain ⟨cs, rfl⟩ := this
    simp only [Sh.arg, VR]
    exact ⟨cs, rfl, by simpa [Value.cells, Sh.cells] using hv⟩

theorem args_open {base : Nat} : ∀ (l : List Sh) (ts : List TypeId) (vs : List Value) (ds : List (DataW H)) (ps : List MemPlace), Sh.fitsT P l ts = true → (∀ (j : Nat) t v, ts[j]? = some t → vs[j]? = some v → Value.okWide P W .any base t v) →
    DataW.TrodAll enc P W 0 (fun _ => true) true ts vs ds ps → OpensA P W l vs
  | [], [], vs, ds, ps, _, _, h => by
    obtain ⟨rfl, _, _⟩ := trodAll_nil h
    exact ⟨(), by simp [Sh.oks], [], rfl, fun ρ next _ _ => ⟨by simp [Sh.args, VRs], fun i blk h => by simp [Sh.entss] at h⟩⟩
  | [], _ :: _, vs, ds, ps, hf, _, _ => by simp [Sh.fitsT] at hf
  | _ :: _, [], vs, ds, ps, hf, _, _ => by simp [Sh.fitsT] at hf
  | s :: l, t :: ts, vs, ds, ps, hf, hval, h => by
    obtain ⟨v, vs', d, ds', p, q, rfl, rfl, rfl, h1, h2⟩ := trodAll_cons h
    simp only [Sh.fitsT, Bool.and_eq_true] at hf
    obtain ⟨⟨y, o1, d1, l1, f1⟩, harg⟩ := arg_open hf.1 (hval 0 t v rfl rfl) h1
    obtain ⟨z, o2, d2, l2, f2⟩ := args_open l ts vs' ds' q hf.2 (fun j t v ht hv => hval (j + 1) t v (by simpa using ht) (by simpa using hv)) h2
    refine ⟨(y, z), by simp only [Sh.oks]; exact ⟨o1, o2⟩, d1 ++ d2, by simp [Sh.nes, l1, l2], fun ρ next hb hρ => ?_⟩
    obtain ⟨a1, a2⟩ := f1 ρ next hb fun i d hi => hρ i d (by rw [List.getElem?_append_left]; exact hi; exact (List.getElem?_eq_some_iff.1 hi).1)
    obtain ⟨b1, b2⟩ := f2 ρ (next + s.ne) hb fun i d hi => by
      have := hρ (s.ne + i) d (by rw [List.getElem?_append_right (by omega), l1, Nat.add_sub_cancel_left]; exact hi)
      rw [Nat.add_assoc]; exact this
    refine ⟨by simp only [Sh.args, VRs]; exact ⟨harg ρ y next a1, b1⟩, fun i blk hi => ?_⟩
    simp only [Sh.entss] at hi
    have el := ents_length s y
    by_cases hil : i < s.ne
    · rw [List.getElem?_append_left (by omega)] at hi
      obtain ⟨d, h3, h4⟩ := a2 i blk hi
      exact ⟨d, by rw [List.getElem?_append_left (by omega)]; exact h3, h4⟩
    · rw [List.getElem?_append_right (by omega), el] at hi
      obtain ⟨d, h3, h4⟩ := b2 (i - s.ne) blk hi
      exact ⟨d, by rw [List.getElem?_append_right (by omega), l1]; exact h3, h4⟩

theorem inside_of {ρ : Ren} {b o : Nat} {cs : Cells} (h : CellsAt ρ W b o cs) (hl : 0 < cs.len) : b < W.heap.size := by
  have key : ∀ off cv, W.cell? ⟨b, off, none⟩ = some cv → b < W.heap.size := fun off cv h => by
    rcases Nat.lt_or_ge b W.heap.size with h' | h'
    · exact h'
    · simp [World.cell?, Array.getElem?_eq_none h'] at h
  cases cs with
  | lit l => obtain ⟨cv, h1, _⟩ := h 0 l[0] (List.getElem?_eq_getElem hl); exact key _ cv h1
  | sym l => exact key _ _ (h 0 l[0] (List.getElem?_eq_getElem hl))
  | rows l => obtain ⟨cv, h1, _⟩ := h 0 l[0] (List.getElem?_eq_getElem hl); exact key _ cv h1
  | arr s l => exact key _ _ (h 0 (s.flatl l)[0] (List.getElem?_eq_getElem hl))
  | arrs s l => obtain ⟨cv, h1, _⟩ := h 0 l[0] (List.getElem?_eq_getElem hl); exact key _ cv h1

theorem sim_open {l : List Sh} {vs : List Value} (h : OpensA P W l vs) : ∃ y : Sh.Ts l, Sh.oks l y ∧ ∃ ρ : Ren, VRs ρ (Sh.args l y 0) vs ∧ Sim ρ (Sh.entss l y) W := by
  obtain ⟨y, hy, c, hc, hf⟩ := h
  have hel := entss_length l y
  obtain ⟨h1, h2⟩ := hf ⟨fun b => c[b]?, W⟩ 0 rfl (fun i d hi => by simpa using hi)
  refine ⟨y, hy, _, h1, ?_⟩
  have live : ∀ b (e : Ent), (Sh.entss l y)[b]? = some e → ∃ blk : Blk, e = .live blk ∧ blk.rw = false ∧ (∀ l, blk.cells ≠ .lit l) := fun b e hb => entss_live l y e (List.mem_of_getElem? hb)
  have at_ : ∀ b blk, Heap.get (Sh.entss l y) b = .live blk → (Sh.entss l y)[b]? = some (.live blk) := fun b blk hb => by
    simp only [Heap.get, List.getD_eq_getElem?_getD] at hb
    cases hq : (Sh.entss l y)[b]? with
    | none => rw [hq] at hb; cases hb
    | some e => rw [hq] at hb; simp at hb; rw [hb]
  have norw : ∀ b blk, Heap.get (Sh.entss l y) b = .live blk → blk.rw = true → False := fun b blk hb hr => by
    obtain ⟨blk', h3, h4, _⟩ := live b _ (at_ b blk hb)
    injection h3 with h3; subst h3; rw [h4] at hr; cases hr
  refine ⟨fun b blk hb => ?_, fun b blk c' hb hc' => ?_, fun b blk c' hb hc' hs => ?_, fun b blk c' hb hc' hr => (norw b blk hb hr).elim, fun b b' blk blk' c' d' hb hb' hne hc' hd' hr => (norw b blk hb hr).elim, fun b hb => ?_, Nat.le_refl _, fun _ _ => rfl, fun b blk c' hb hc' hr => (norw b blk hb hr).elim⟩
  · obtain ⟨d, h3, _⟩ := h2 b blk (at_ b blk hb); exact ⟨d, h3⟩
  · obtain ⟨d, h3, h4⟩ := h2 b blk (at_ b blk hb)
    have : some d = some c' := h3.symm.trans hc'
    injection this with this; subst this; exact h4
  · obtain ⟨d, h3, h4⟩ := h2 b blk (at_ b blk hb)
    have : some d = some c' := h3.symm.trans hc'
    injection this with this; subst this
    refine inside_of h4 ?_
    rcases hs with hs | hs
    · exact hs
    · exact (norw b blk hb hs.1).elim
  · show c[b]? = none
    have hb' : Heap.get (Sh.entss l y) b = .free := hb
    simp only [Heap.get, List.getD_eq_getElem?_getD] at hb'
    cases hq : (Sh.entss l y)[b]? with
    | none =>
      have : (Sh.entss l y).length ≤ b := by simpa using hq
      simp; omega
    | some e =>
      obtain ⟨blk, h3, _⟩ := live b e hq
      rw [hq, h3] at hb'; simp at hb'

theorem trodAll_below (laid : laidOutB P = true) {W' : World} (hb : Below W.heap.size W W') : ∀ (ts : List TypeId) (vs : List Value) (ds : List (DataW H)) (ps : List MemPlace), ts.all (fun t => P.readableRec t && decide (t < P.types.size)) = true →
    DataW.TrodAll enc P W 0 (fun _ => true) true ts vs ds ps → (∀ x ∈ ps, x.block < W.heap.size) → DataW.TrodAll enc P W' 0 (fun b => decide (b < W.heap.size)) true ts vs ds ps
  | [], vs, ds, ps, _, h, _ => by
    obtain ⟨rfl, rfl, rfl⟩ := trodAll_nil h
    exact trodAll_mk0
  | t :: ts, vs, ds, ps, ht, h, hlt => by
    obtain ⟨v, vs', d, ds', p, q, rfl, rfl, rfl, h1, h2⟩ := trodAll_cons h
    simp only [List.all_cons, Bool.and_eq_true, decide_eq_true_eq] at ht
    exact ⟨p, q, Below.trod laid ht.1.1 ht.1.2 h1 hb (fun x hx => hlt x (List.mem_append.2 (.inl hx))), trodAll_below laid hb ts vs' ds' q (by simpa using ht.2) h2 (fun x hx => hlt x (List.mem_append.2 (.inr hx))), rfl⟩

theorem trodAll_lt : ∀ (ts : List TypeId) (vs : List Value) (ds : List (DataW H)) (ps : List MemPlace), DataW.TrodAll enc P W 0 (fun _ => true) true ts vs ds ps → ∀ x ∈ ps, x.block < W.heap.size
  | [], vs, ds, ps, h => by
    obtain ⟨rfl, rfl, rfl⟩ := trodAll_nil h
    simp
  | t :: ts, vs, ds, ps, h => by
    obtain ⟨v, vs', d, ds', p, q, rfl, rfl, rfl, ⟨fuel, h1⟩, h2⟩ := trodAll_cons h
    intro x hx
    rcases List.mem_append.1 hx with hx | hx
    · exact DataW.trod_lt fuel _ _ _ h1 x hx
    · exact trodAll_lt ts vs' ds' q h2 x hx

/-- The row's call. -/
theorem row_calls (laid : laidOutB P = true) {f : FuncId} {fn : Func} {c : Code} (hfn : P.funcs[f]? = some fn) (hb : fn.body = some c) (hname : (fn.name == "runtime.NumGoroutine") = false) {l : List Sh} {ts : List TypeId} (hf : Sh.fitsT P l ts = true) (hr : ts.all (fun t => P.readableRec t && decide (t < P.types.size)) = true)
    (hd : ∀ y : Sh.Ts l, Sh.oks l y → ∃ h', Does P f (Sh.args l y 0) (Sh.entss l y) (.val (.bool true)) h') {args : Array Value} {ds : List (DataW H)} {ps : List MemPlace} {base : Nat} (hval : ∀ (j : Nat) t v, ts[j]? = some t → args[j]? = some v → Value.okWide P W .any base t v)
    (h : DataW.TrodAll enc P W 0 (fun _ => true) true ts args.toList ds ps) :
    Calls P f args W fun e W' => e = .returned (.bool true) ∧ Below W.heap.size W W' ∧ DataW.TrodAll enc P W' 0 (fun b => decide (b < W.heap.size)) true ts args.toList ds ps := by
  obtain ⟨y, hy, ρ, h1, h2⟩ := sim_open (args_open l ts args.toList ds ps hf (fun j t v ht hv => hval j t v ht (by simpa using hv)) h)
  obtain ⟨h', hdo⟩ := hd y hy
  have hinv := hdo ρ W args h2 h1
  unfold Invokes at hinv
  have hcall : (callFunc f args).run P W = .ok (.enter f args) W := by
    simp only [callFunc, program, Sem.run_bind, Sem.run, Result.andThen, hfn]
    simp only [hname, hb, Option.isNone_some, Bool.false_eq_true, if_false]
    rfl
  rw [hcall] at hinv
  refine hinv.mono fun e W' ⟨ρ', cv, he, hv, hI⟩ => ?_
  simp only [VR] at hv
  subst hv
  have hbel : Below W.heap.size W W' := by
    refine ⟨hI.os, hI.tape, hI.output, hI.size, fun k hk => hI.keep k hk ?_⟩
    rintro ⟨b, blk, c', _, hg, hrw, _⟩
    have hg' : Heap.get (Sh.entss l y) b = .live blk := hg
    simp only [Heap.get, List.getD_eq_getElem?_getD] at hg'
    cases hq : (Sh.entss l y)[b]? with
    | none => rw [hq] at hg'; simp at hg'
    | some e =>
      rw [hq] at hg'; simp at hg'; subst hg'
      obtain ⟨blk', h3, h4, _⟩ := entss_live l y _ (List.mem_of_getElem? hq)
      injection h3 with h3; subst h3; rw [h4] at hrw; cases hrw
  exact ⟨he, hbel, trodAll_below laid hbel ts _ _ _ hr h (trodAll_lt ts _ _ _ h)⟩
end
end Go.Ab
/-
  CORE 17: abstract values seen as values of a shape (to hand them to a function that only reads them).
-/
set_option linter.unusedVariables false
set_option linter.unusedSimpArgs false
namespace Go.Ab

/-- So many parts of a shape from an offset on, and on which condition. -/
def partsOf (s : Sh) (cp : Cap) (cs : Cells) (o n : Nat) : Option (List s.T × Bool) :=
  if s.flat = true ∧ 0 < s.w then
    match cs with
    | .arr s' l => match Sh.same s' s with
      | some h => (match cp with
        | .part => (if s.w = 1 then some (cut (h.down ▸ l) o n, decide (o + n ≤ l.length)) else match o with
          | 0 => some (cut (h.down ▸ l) 0 n, decide (n ≤ l.length))
          | _ + 1 => none)
        | _ => (match o with
          | 0 => some (h.down ▸ l, decide (n = l.length))
          | _ + 1 => (match eltAt s.w o 0 with
            | some k => some (cut (h.down ▸ l) k n, decide (k + n ≤ l.length))
            | none => none)))
      | none => none
    | .lit l => (match decN s n (l.drop o) with
      | some y => some (y, true)
      | none => none)
    | _ => none
  else none

theorem partsOf_ok {cp : Cap} {ρ : Ren} {w : World} {cb co : Nat} {cs : Cells} (hc : CellsAt ρ w cb co cs) {s : Sh} {o n : Nat} {y : List s.T} {c : Bool} (h : partsOf s cp cs o n = some (y, c)) (hb : c = true) :
    y.length = n ∧ s.flat = true ∧ 0 < s.w ∧ ∀ (j : Nat) (v : Value), (s.flatl y)[j]? = some v → w.cell? ⟨cb, co + o + j, none⟩ = some v := by
  unfold partsOf at h
  split at h
  case isFalse => cases h
  rename_i hfw
  obtain ⟨hf, hw⟩ := hfw
  split at h
  · rename_i s' l
    split at h
    case h_2 => cases h
    rename_i hs _
    obtain ⟨hs⟩ := hs
    subst hs
    split at h
    · split at h
      · rename_i hw1
        injection h with h; injection h with h1 h2; subst h1; subst h2
        have hb : o + n ≤ l.length := by simpa using hb
        refine ⟨cut_length hb, hf, hw, fun j v hj => ?_⟩
        have h3 := flatl_take_get _ _ hj
        rw [flatl_drop hf, List.getElem?_drop, hw1, Nat.mul_one] at h3
        rw [Nat.add_assoc]; exact hc _ _ h3
      · split at h
        case h_2 => cases h
        injection h with h; injection h with h1 h2; subst h1; subst h2
        have hb : 0 + n ≤ l.length := by simpa using hb
        refine ⟨cut_length hb, hf, hw, fun j v hj => ?_⟩
        have h3 := flatl_take_get _ _ hj
        rw [flatl_drop hf, List.getElem?_drop, Nat.zero_mul, Nat.zero_add] at h3
        rw [Nat.add_zero]; exact hc _ _ h3
    split at h
    · injection h with h; injection h with h1 h2; subst h1; subst h2
      have hb : n = l.length := by simpa using hb
      exact ⟨hb.symm, hf, hw, fun j v hj => by rw [Nat.add_zero]; exact hc j v hj⟩
    rename_i o'
    split at h
    case h_2 => cases h
    rename_i k hk
    injection h with h; injection h with h1 h2; subst h1; subst h2
    have hb : k + n ≤ l.length := by simpa using hb
    obtain ⟨hk1, _⟩ := eltAt_some hk
    refine ⟨cut_length hb, hf, hw, fun j v hj => ?_⟩
    have h3 := flatl_take_get _ _ hj
    rw [flatl_drop hf, List.getElem?_drop] at h3
    have := hc _ _ h3
    rw [show co + (o' + 1) + j = co + (k * s'.w + j) by omega]; exact this
  · rename_i l
    split at h
    case h_2 => cases h
    rename_i y' hy
    injection h with h; injection h with h1 h2; subst h1
    obtain ⟨h3, r, h4⟩ := decN_ok n _ _ hy
    refine ⟨h3, hf, hw, fun j v hj => ?_⟩
    have h5 : l[o + j]? = some (.val v) := by
      have : (l.drop o)[j]? = some (.val v) := by
        rw [h4, List.getElem?_append_left (by simp; exact (List.getElem?_eq_some_iff.1 hj).1)]
        simp [hj]
      rwa [List.getElem?_drop] at this
    obtain ⟨cv, h6, h7⟩ := hc _ _ h5
    simp only [VR] at h7; subst h7
    rw [Nat.add_assoc]; exact h6
  · cases h

theorem partsOf_len {cp : Cap} {s : Sh} {cs : Cells} {o n : Nat} {y : List s.T} {c : Bool} (h : partsOf s cp cs o n = some (y, c)) (hl : 0 < (s.flatl y).length) : 0 < cs.len := by
  unfold partsOf at h
  split at h
  case isFalse => cases h
  rename_i hfw
  split at h
  · rename_i s' l
    split at h
    case h_2 => cases h
    rename_i hs _
    obtain ⟨hs⟩ := hs
    subst hs
    have key : ∀ k, 0 < (s'.flatl (cut l k n)).length → 0 < (s'.flatl l).length := fun k hl => by
      have h3 : (s'.flatl (cut l k n)).length ≠ 0 := Nat.pos_iff_ne_zero.1 hl
      rw [flatl_length s' hfw.1] at h3
      have h4 : (cut l k n).length ≠ 0 := fun e => h3 (by rw [e]; simp)
      have h5 : l.length ≠ 0 := fun e => h4 (by simp [cut, List.length_eq_zero_iff.1 e])
      rw [flatl_length s' hfw.1]
      exact Nat.mul_pos (by omega) hfw.2
    split at h
    · split at h
      · injection h with h; injection h with h1 h2; subst h1; exact key _ hl
      · split at h
        case h_2 => cases h
        injection h with h; injection h with h1 h2; subst h1; exact key _ hl
    split at h
    · injection h with h; injection h with h1 h2; subst h1; exact hl
    · split at h
      case h_2 => cases h
      rename_i k hk
      injection h with h; injection h with h1 h2; subst h1
      have h3 : (s'.flatl (cut l k n)).length ≠ 0 := Nat.pos_iff_ne_zero.1 hl
      rw [flatl_length s' hfw.1] at h3
      have h4 : (cut l k n).length ≠ 0 := fun e => h3 (by rw [e]; simp)
      have h5 : l.length ≠ 0 := fun e => h4 (by simp [cut, List.length_eq_zero_iff.1 e])
      show 0 < (s'.flatl l).length
      rw [flatl_length s' hfw.1]
      exact Nat.mul_pos (by omega) hfw.2
  · rename_i l
    split at h
    case h_2 => cases h
    rename_i y' hy
    injection h with h; injection h with h1 h2; subst h1
    obtain ⟨h3, r, h4⟩ := decN_ok n _ _ hy
    have := congrArg List.length h4
    simp at this
    show 0 < l.length
    omega
  · cases h
/-! ### seen -/
def viewSl (H : Nat → Ent) (e : Sh) : AV → Option (List e.T × List Nat × Bool)
  | .slc b o n cp => match H b with
    | .live blk => (match partsOf e cp blk.cells o n with
      | some (y, c) => some (y, [b], c)
      | none => none)
    | _ => none
  | .val (.slice none 0 0) => some ([], [], true)
  | _ => none
def viewRw (H : Nat → Ent) (e : Sh) : AV → Option (List (List e.T) × List Nat × Bool)
  | .slc b o n _ => if e.flat = true ∧ e.w = 1 then (match H b with
    | .live blk => (match blk.cells with
      | .arrs e' l => (match Sh.same e' e with
        | some h => (match o with
          | 0 => some (h.down ▸ l, [b], decide (n = l.length))
          | o' + 1 => some (cut (h.down ▸ l) (o' + 1) n, [b], decide (o' + 1 + n ≤ l.length)))
        | none => none)
      | _ => none)
    | _ => none) else none
  | .val (.slice none 0 0) => if e.flat = true ∧ e.w = 1 then some ([], [], true) else none
  | _ => none
mutual
def viewC (H : Nat → Ent) : (s : Sh) → List AV → Option (s.T × List Nat × Bool × List AV)
  | .int k, cs => (match Sh.dec (.int k) cs with
    | some (y, r) => some (y, [], true, r)
    | none => none)
  | .bool, cs => (match Sh.dec .bool cs with
    | some (y, r) => some (y, [], true, r)
    | none => none)
  | .str, cs => (match Sh.dec .str cs with
    | some (y, r) => some (y, [], true, r)
    | none => none)
  | .st l, cs => viewCs H l cs
  | .sl e, a :: r => (match viewSl H e a with
    | some (y, b, c) => some (y, b, c, r)
    | none => none)
  | .rows e, a :: r => (match viewRw H e a with
    | some (y, b, c) => some (y, b, c, r)
    | none => none)
  | _, _ => none
def viewCs (H : Nat → Ent) : (l : List Sh) → List AV → Option (Sh.Ts l × List Nat × Bool × List AV)
  | [], cs => some ((), [], true, cs)
  | s :: l, cs => match viewC H s cs with
    | some (y, b, c, r) => (match viewCs H l r with
      | some (z, b', c', r') => some ((y, z), b ++ b', c && c', r')
      | none => none)
    | none => none
end

/-- A place that belongs to one of the blocks told. -/
def From (ρ0 : Ren) (h : Heap) (Q : Nat → Prop) (cb : Nat) : Prop := ∃ b blk c, Q b ∧ h.get b = .live blk ∧ ρ0 b = some c ∧ blk.solid c ∧ c.1 = cb
/-- In this world the values are a value of the shape. -/
def Views (w B : World) (F : Nat → Prop) (s : Sh) (y : s.T) (cs : List Value) : Prop :=
  ∃ c : List (Nat × Nat × Nat), c.length = s.ne ∧ ∀ (ρ : Ren) (next : Nat), ρ.base = B → (∀ (i : Nat) (d : Nat × Nat × Nat), c[i]? = some d → ρ (next + i) = some d) →
    VRs ρ (s.cells y next) cs ∧ ∀ (i : Nat) (blk : Blk), (s.ents y)[i]? = some (.live blk) → ∃ d : Nat × Nat × Nat, c[i]? = some d ∧ CellsAt ρ w d.1 d.2.1 blk.cells ∧ (0 < blk.cells.len → F d.1)
def ViewsL (w B : World) (F : Nat → Prop) (l : List Sh) (y : Sh.Ts l) (cs : List Value) : Prop :=
  ∃ c : List (Nat × Nat × Nat), c.length = Sh.nes l ∧ ∀ (ρ : Ren) (next : Nat), ρ.base = B → (∀ (i : Nat) (d : Nat × Nat × Nat), c[i]? = some d → ρ (next + i) = some d) →
    VRs ρ (Sh.cellss l y next) cs ∧ ∀ (i : Nat) (blk : Blk), (Sh.entss l y)[i]? = some (.live blk) → ∃ d : Nat × Nat × Nat, c[i]? = some d ∧ CellsAt ρ w d.1 d.2.1 blk.cells ∧ (0 < blk.cells.len → F d.1)

theorem ViewsL.nil {w B : World} {F : Nat → Prop} : ViewsL w B F [] () [] := ⟨[], rfl, fun ρ next _ _ => ⟨by simp [Sh.cellss, VRs], fun i blk h => by simp [Sh.entss] at h⟩⟩
theorem ViewsL.cons {w B : World} {F : Nat → Prop} {s : Sh} {l : List Sh} {y : s.T} {z : Sh.Ts l} {c1 c2 : List Value} (h1 : Views w B F s y c1) (h2 : ViewsL w B F l z c2) : ViewsL w B F (s :: l) (y, z) (c1 ++ c2) := by
  obtain ⟨d1, l1, f1⟩ := h1
  obtain ⟨d2, l2, f2⟩ := h2
  refine ⟨d1 ++ d2, by simp [Sh.nes, l1, l2], fun ρ next hb hρ => ?_⟩
  obtain ⟨a1, a2⟩ := f1 ρ next hb fun i d hi => hρ i d (by rw [List.getElem?_append_left]; exact hi; exact (List.getElem?_eq_some_iff.1 hi).1)
  obtain ⟨b1, b2⟩ := f2 ρ (next + s.ne) hb fun i d hi => by
    have := hρ (s.ne + i) d (by rw [List.getElem?_append_right (by omega), l1, Nat.add_sub_cancel_left]; exact hi)
    rw [Nat.add_assoc]; exact this
  refine ⟨by simp only [Sh.cellss]; exact a1.append b1, fun i blk hi => ?_⟩
  simp only [Sh.entss] at hi
  have el := ents_length s y
  by_cases hil : i < s.ne
  · rw [List.getElem?_append_left (by omega)] at hi
    obtain ⟨d, h3, h4⟩ := a2 i blk hi
    exact ⟨d, by rw [List.getElem?_append_left (by omega)]; exact h3, h4⟩
  · rw [List.getElem?_append_right (by omega), el] at hi
    obtain ⟨d, h3, h4⟩ := b2 (i - s.ne) blk hi
    exact ⟨d, by rw [List.getElem?_append_right (by omega), l1]; exact h3, h4⟩

section
variable {ρ0 : Ren} {h : Heap} {w : World} {H : Nat → Ent} {Q : Nat → Prop}

/-- A slice, seen: nothing, or there it lies. -/
theorem viewSl_ok (hs : Sim ρ0 h w) {e : Sh} {a : AV} {cv : Value} (hv : VR ρ0 a cv) {y : List e.T} {bs : List Nat} {c : Bool} (hvw : viewSl H e a = some (y, bs, c)) (hH : ∀ b ∈ bs, h.get b = H b) (hQ : ∀ b ∈ bs, Q b) (hc : c = true) :
    (∃ b o c', cv = .slice (some ⟨b, o, none⟩) y.length c' ∧ y.length ≤ c' ∧ (∀ (j : Nat) (v : Value), (e.flatl y)[j]? = some v → w.cell? ⟨b, o + j, none⟩ = some v) ∧ (0 < (e.flatl y).length → From ρ0 h Q b)) ∨ (y = [] ∧ ∃ a, cv = .slice a 0 0) := by
  unfold viewSl at hvw
  split at hvw
  · rename_i b o n cp
    split at hvw
    case h_2 => cases hvw
    rename_i blk hblk
    split at hvw
    case h_2 => cases hvw
    rename_i y' c' hp
    injection hvw with hvw; injection hvw with e1 e2; injection e2 with e2 e3
    subst e1; subst e2; subst e3
    have hb : h.get b = .live blk := by rw [hH b (by simp)]; exact hblk
    rcases hv.slc_cases with ⟨cb, co, cc, c', h1, h2, h3⟩ | ⟨h1, a, h2⟩
    · obtain ⟨k1, _, _, k2⟩ := partsOf_ok (hs.cells b blk _ hb h1) hp hc
      refine .inl ⟨cb, co + o, c', by rw [k1]; exact h3, by omega, k2, fun hl => ⟨b, blk, _, hQ b (by simp), hb, h1, .inl (partsOf_len hp hl), rfl⟩⟩
    · obtain ⟨d, hd⟩ := hs.some_ b blk hb
      obtain ⟨k1, _, _, k2⟩ := partsOf_ok (hs.cells b blk _ hb hd) hp hc
      exact .inr ⟨List.length_eq_zero_iff.1 (by omega), a, h2⟩
  · simp only [VR] at hv
    injection hvw with hvw; injection hvw with e1 e2; subst e1
    exact .inr ⟨rfl, none, hv⟩
  · cases hvw

theorem RowIn.of_base (hs : Sim ρ0 h w) {cv : Value} {r : List Value} (hr : RowIn ρ0.base cv r) : RowIn w cv r := by
  rcases hr with hr | ⟨b, o, c, h1, h2, h3⟩
  · exact .inl hr
  · refine .inr ⟨b, o, c, h1, h2, fun j v hj => ?_⟩
    have h4 := h3 j v hj
    have hlt : b < ρ0.base.heap.size := by
      rcases Nat.lt_or_ge b ρ0.base.heap.size with h' | h'
      · exact h'
      · simp [World.cell?, Array.getElem?_eq_none h'] at h4
    rw [← h4]
    simp [World.cell?, hs.old b hlt]

theorem Views.flat0 {s : Sh} {cs : List Value} {y : s.T} (hn : s.ne = 0) (hv : ∀ (ρ : Ren) next, VRs ρ (s.cells y next) cs) : Views w ρ0.base (From ρ0 h Q) s y cs :=
  ⟨[], hn.symm, fun ρ next _ _ => ⟨hv ρ next, fun i blk hi => by
    have := ents_length s y
    rw [hn] at this
    rw [List.length_eq_zero_iff.1 this] at hi
    simp at hi⟩⟩

theorem VRs.split {ρ : Ren} : ∀ (as bs : List AV) (vs : List Value), VRs ρ (as ++ bs) vs → ∃ v1 v2, vs = v1 ++ v2 ∧ VRs ρ as v1 ∧ VRs ρ bs v2
  | [], bs, vs, h => ⟨[], vs, rfl, by simp [VRs], h⟩
  | a :: as, bs, [], h => by simp [VRs] at h
  | a :: as, bs, v :: vs, h => by
    simp only [List.cons_append, VRs] at h
    obtain ⟨v1, v2, rfl, h1, h2⟩ := VRs.split as bs vs h.2
    exact ⟨v :: v1, v2, rfl, by simp only [VRs]; exact ⟨h.1, h1⟩, h2⟩

theorem enc_view {s : Sh} {y : s.T} {vs : List Value} (hv : VRs ρ0 ((s.enc y).map .val) vs) : vs = s.enc y := by
  have key : ∀ (l u : List Value), VRs ρ0 (l.map .val) u → u = l := by
    intro l
    induction l with
    | nil => intro u h; cases u with
      | nil => rfl
      | cons => simp [VRs] at h
    | cons a l ih => intro u h; cases u with
      | nil => simp [VRs] at h
      | cons b u => simp only [List.map_cons, VRs, VR] at h; rw [h.1, ih u h.2]
  exact key _ _ hv

mutual
theorem viewC_ok (hs : Sim ρ0 h w) : ∀ (s : Sh) (cs : List AV) (cvs : List Value), VRs ρ0 cs cvs → ∀ (y : s.T) (bs : List Nat) (c : Bool) (rest : List AV), viewC H s cs = some (y, bs, c, rest) → (∀ b ∈ bs, h.get b = H b) → (∀ b ∈ bs, Q b) → c = true →
    ∃ v1 v2, cvs = v1 ++ v2 ∧ VRs ρ0 rest v2 ∧ Views w ρ0.base (From ρ0 h Q) s y v1
  | .int k, cs, cvs, hv, y, bs, c, rest, hvw, hH, hQ, hc => by
    simp only [viewC] at hvw
    split at hvw
    case h_2 => cases hvw
    rename_i y' r hd
    injection hvw with hvw; injection hvw with e1 e2; injection e2 with e2 e3; injection e3 with e3 e4
    subst e1; subst e4
    obtain ⟨v1, v2, g1, g2, g3⟩ := VRs.split _ _ _ ((dec_ok _ _ _ _ hd).2 ▸ hv)
    exact ⟨v1, v2, g1, g3, .flat0 rfl fun ρ next => by rw [enc_view g2]; simp [Sh.cells, Sh.enc, VRs, VR]⟩
  | .bool, cs, cvs, hv, y, bs, c, rest, hvw, hH, hQ, hc => by
    simp only [viewC] at hvw
    split at hvw
    case h_2 => cases hvw
    rename_i y' r hd
    injection hvw with hvw; injection hvw with e1 e2; injection e2 with e2 e3; injection e3 with e3 e4
    subst e1; subst e4
    obtain ⟨v1, v2, g1, g2, g3⟩ := VRs.split _ _ _ ((dec_ok _ _ _ _ hd).2 ▸ hv)
    exact ⟨v1, v2, g1, g3, .flat0 rfl fun ρ next => by rw [enc_view g2]; simp [Sh.cells, Sh.enc, VRs, VR]⟩
  | .str, cs, cvs, hv, y, bs, c, rest, hvw, hH, hQ, hc => by
    simp only [viewC] at hvw
    split at hvw
    case h_2 => cases hvw
    rename_i y' r hd
    injection hvw with hvw; injection hvw with e1 e2; injection e2 with e2 e3; injection e3 with e3 e4
    subst e1; subst e4
    obtain ⟨v1, v2, g1, g2, g3⟩ := VRs.split _ _ _ ((dec_ok _ _ _ _ hd).2 ▸ hv)
    exact ⟨v1, v2, g1, g3, .flat0 rfl fun ρ next => by rw [enc_view g2]; simp [Sh.cells, Sh.enc, VRs, VR]⟩
  | .st l, cs, cvs, hv, y, bs, c, rest, hvw, hH, hQ, hc => by
    simp only [viewC] at hvw
    obtain ⟨v1, v2, g1, g2, g3⟩ := viewCs_ok hs l cs cvs hv y bs c rest hvw hH hQ hc
    exact ⟨v1, v2, g1, g2, g3⟩
  | .sl e, [], cvs, hv, y, bs, c, rest, hvw, hH, hQ, hc => by simp [viewC] at hvw
  | .sl e, a :: r, [], hv, y, bs, c, rest, hvw, hH, hQ, hc => by simp [VRs] at hv
  | .sl e, a :: r, cv :: cvs, hv, y, bs, c, rest, hvw, hH, hQ, hc => by
    simp only [VRs] at hv
    simp only [viewC] at hvw
    split at hvw
    case h_2 => cases hvw
    rename_i y' b' c' hsl
    injection hvw with hvw; injection hvw with e1 e2; injection e2 with e2 e3; injection e3 with e3 e4
    subst e1; subst e2; subst e3; subst e4
    refine ⟨[cv], cvs, rfl, hv.2, ?_⟩
    rcases viewSl_ok hs hv.1 hsl hH hQ hc with ⟨b, o, c', h2, h3, h4, h5⟩ | ⟨h2, a, h3⟩
    · refine ⟨[(b, o, 0)], rfl, fun ρ next hb hρ => ⟨?_, fun i blk hi => ?_⟩⟩
      · simp only [Sh.cells, VRs, VR]
        exact ⟨.inl ⟨b, o, 0, c', by simpa using hρ 0 _ rfl, h3, h2⟩, trivial⟩
      · simp only [Sh.ents] at hi
        cases i with
        | succ i => simp at hi
        | zero =>
          simp at hi; subst hi
          exact ⟨(b, o, 0), rfl, h4, h5⟩
    · subst h2
      refine ⟨[(0, 0, 0)], rfl, fun ρ next hb hρ => ⟨?_, fun i blk hi => ?_⟩⟩
      · simp only [Sh.cells, VRs, VR]
        exact ⟨.inr ⟨rfl, a, h3⟩, trivial⟩
      · simp only [Sh.ents] at hi
        cases i with
        | succ i => simp at hi
        | zero =>
          simp at hi; subst hi
          exact ⟨(0, 0, 0), rfl, fun j v hj => by simp [Sh.flatl] at hj, fun hl => by simp [Cells.len, Sh.flatl] at hl⟩
  | .rows e, [], cvs, hv, y, bs, c, rest, hvw, hH, hQ, hc => by simp [viewC] at hvw
  | .rows e, a :: r, [], hv, y, bs, c, rest, hvw, hH, hQ, hc => by simp [VRs] at hv
  | .rows e, a :: r, cv :: cvs, hv, y, bs, c, rest, hvw, hH, hQ, hc => by
    simp only [VRs] at hv
    simp only [viewC] at hvw
    split at hvw
    case h_2 => cases hvw
    rename_i y' b' c' hrw
    injection hvw with hvw; injection hvw with e1 e2; injection e2 with e2 e3; injection e3 with e3 e4
    subst e1; subst e2; subst e3; subst e4
    refine ⟨[cv], cvs, rfl, hv.2, ?_⟩
    have nilcase : y' = [] → (∃ a, cv = .slice a 0 0) → Views w ρ0.base (From ρ0 h Q) (.rows e) y' [cv] := by
      rintro rfl ⟨a, h3⟩
      refine ⟨[(0, 0, 0)], rfl, fun ρ next hb hρ => ⟨?_, fun i blk hi => ?_⟩⟩
      · simp only [Sh.cells, VRs, VR]
        exact ⟨.inr ⟨rfl, a, h3⟩, trivial⟩
      · simp only [Sh.ents] at hi
        cases i with
        | succ i => simp at hi
        | zero =>
          simp at hi; subst hi
          exact ⟨(0, 0, 0), rfl, fun j v hj => by simp at hj, fun hl => by simp [Cells.len] at hl⟩
    have somecase : ∀ cb o c', cv = .slice (some ⟨cb, o, none⟩) y'.length c' → y'.length ≤ c' → (∀ (j : Nat) (r : List e.T), y'[j]? = some r → ∃ cv, w.cell? ⟨cb, o + j, none⟩ = some cv ∧ RowIn ρ0.base cv (e.flatl r)) → (0 < y'.length → From ρ0 h Q cb) → Views w ρ0.base (From ρ0 h Q) (.rows e) y' [cv] := by
      intro cb o c' h2 h3 h4 h9
      refine ⟨[(cb, o, 0)], rfl, fun ρ next hb hρ => ⟨?_, fun i blk hi => ?_⟩⟩
      · simp only [Sh.cells, VRs, VR]
        exact ⟨.inl ⟨cb, o, 0, c', by simpa using hρ 0 _ rfl, h3, h2⟩, trivial⟩
      · simp only [Sh.ents] at hi
        cases i with
        | succ i => simp at hi
        | zero =>
          simp at hi; subst hi
          refine ⟨(cb, o, 0), rfl, fun j r hj => ?_, h9⟩
          obtain ⟨u, h5, h6⟩ := h4 j r hj
          exact ⟨u, h5, by rw [hb]; exact h6⟩
    unfold viewRw at hrw
    split at hrw
    · rename_i b o n cp
      split at hrw
      case isFalse => cases hrw
      rename_i hfw
      split at hrw
      case h_2 => cases hrw
      rename_i blk hblk
      split at hrw
      · rename_i e' l hcells
        split at hrw
        case h_2 => cases hrw
        rename_i hse _
        obtain ⟨hse⟩ := hse
        subst hse
        have two : ∃ y0, (o = 0 ∧ y0 = l ∧ n = l.length ∧ y' = y0 ∧ b' = [b]) ∨ (o + n ≤ l.length ∧ y' = cut l o n ∧ b' = [b]) := by
          split at hrw
          · injection hrw with hrw; injection hrw with e1 e2; injection e2 with e2 e3
            exact ⟨l, .inl ⟨rfl, rfl, by subst e3; simpa using hc, e1.symm, e2.symm⟩⟩
          · injection hrw with hrw; injection hrw with e1 e2; injection e2 with e2 e3
            exact ⟨l, .inr ⟨by subst e3; simpa using hc, e1.symm, e2.symm⟩⟩
        obtain ⟨hc, rfl, rfl⟩ : o + n ≤ l.length ∧ y' = cut l o n ∧ b' = [b] := by
          obtain ⟨y0, ⟨k1, k2, k3, k4, k5⟩ | k⟩ := two
          · subst k1; subst k2; subst k3; exact ⟨by omega, by rw [k4, cut_all], k5⟩
          · exact k
        have hb : h.get b = .live blk := by rw [hH b (by simp)]; exact hblk
        have hlen := cut_length hc
        rcases hv.1.slc_cases with ⟨cb, co, cc, c', h1, h2, h3⟩ | ⟨h1, a, h2⟩
        · refine somecase cb (co + o) c' (by rw [hlen]; exact h3) (by rw [hlen]; exact h2) (fun j r hj => ?_) fun hl => ⟨b, blk, _, hQ b (by simp), hb, h1, .inl (by rw [hcells]; show 0 < l.length; have := hl; rw [hlen] at this; omega), rfl⟩
          have hca := hs.cells b blk _ hb h1
          rw [hcells] at hca
          have hj2 : l[o + j]? = some r := by
            simp only [cut, List.getElem?_take] at hj
            split at hj
            · rwa [List.getElem?_drop] at hj
            · cases hj
          obtain ⟨u, h5, h6⟩ := hca _ r hj2
          exact ⟨u, by rw [Nat.add_assoc]; exact h5, h6⟩
        · exact nilcase (List.length_eq_zero_iff.1 (by rw [hlen]; exact h1)) ⟨a, h2⟩
      · cases hrw
    · simp only [VR] at hv
      split at hrw
      case isFalse => cases hrw
      injection hrw with hrw; injection hrw with e1 e2; subst e1
      exact nilcase rfl ⟨none, hv.1⟩
    · cases hrw
theorem viewCs_ok (hs : Sim ρ0 h w) : ∀ (l : List Sh) (cs : List AV) (cvs : List Value), VRs ρ0 cs cvs → ∀ (y : Sh.Ts l) (bs : List Nat) (c : Bool) (rest : List AV), viewCs H l cs = some (y, bs, c, rest) → (∀ b ∈ bs, h.get b = H b) → (∀ b ∈ bs, Q b) → c = true →
    ∃ v1 v2, cvs = v1 ++ v2 ∧ VRs ρ0 rest v2 ∧ ViewsL w ρ0.base (From ρ0 h Q) l y v1
  | [], cs, cvs, hv, y, bs, c, rest, hvw, hH, hQ, hc => by
    simp only [viewCs] at hvw
    injection hvw with hvw; injection hvw with e1 e2; injection e2 with e2 e3; injection e3 with e3 e4
    subst e4
    exact ⟨[], cvs, rfl, hv, .nil⟩
  | s :: l, cs, cvs, hv, y, bs, c, rest, hvw, hH, hQ, hc => by
    simp only [viewCs] at hvw
    split at hvw
    case h_2 => cases hvw
    rename_i y0 b0 c0 r0 h0
    split at hvw
    case h_2 => cases hvw
    rename_i z b1 c1 r1 h1
    injection hvw with hvw; injection hvw with e1 e2; injection e2 with e2 e3; injection e3 with e3 e4
    subst e1; subst e2; subst e3; subst e4
    simp only [Bool.and_eq_true] at hc
    obtain ⟨v1, v2, rfl, g2, g3⟩ := viewC_ok hs s cs cvs hv y0 b0 c0 r0 h0 (fun b hb => hH b (List.mem_append.2 (.inl hb))) (fun b hb => hQ b (List.mem_append.2 (.inl hb))) hc.1
    obtain ⟨v3, v4, rfl, g4, g5⟩ := viewCs_ok hs l r0 v2 g2 z b1 c1 r1 h1 (fun b hb => hH b (List.mem_append.2 (.inr hb))) (fun b hb => hQ b (List.mem_append.2 (.inr hb))) hc.2
    exact ⟨v1 ++ v3, v4, by simp, g4, ViewsL.cons g3 g5⟩
end
end

end Go.Ab
/-
  CORE 18: a call of a function that only reads.
-/
set_option linter.unusedVariables false
set_option linter.unusedSimpArgs false
namespace Go.Ab

/-! ### arguments, seen -/
def argCells : Sh → AV → Option (List AV)
  | .st _, .agg cs => some cs
  | .st _, .val (.agg cs) => some (cs.toList.map .val)
  | .st _, _ => none
  | _, a => some [a]
def viewA (H : Nat → Ent) (s : Sh) (a : AV) : Option (s.T × List Nat × Bool) :=
  match argCells s a with
  | some cs => (match viewC H s cs with
    | some (y, b, c, []) => some (y, b, c)
    | _ => none)
  | none => none
def viewArgs (H : Nat → Ent) : (l : List Sh) → List AV → Option (Sh.Ts l × List Nat × Bool)
  | [], [] => some ((), [], true)
  | s :: l, a :: as => (match viewA H s a with
    | some (y, b, c) => (match viewArgs H l as with
      | some (z, b', c') => some ((y, z), b ++ b', c && c')
      | none => none)
    | none => none)
  | _, _ => none

def ViewsA (w B : World) (F : Nat → Prop) (l : List Sh) (y : Sh.Ts l) (vs : List Value) : Prop :=
  ∃ c : List (Nat × Nat × Nat), c.length = Sh.nes l ∧ ∀ (ρ : Ren) (next : Nat), ρ.base = B → (∀ (i : Nat) (d : Nat × Nat × Nat), c[i]? = some d → ρ (next + i) = some d) →
    VRs ρ (Sh.args l y next) vs ∧ ∀ (i : Nat) (blk : Blk), (Sh.entss l y)[i]? = some (.live blk) → ∃ d : Nat × Nat × Nat, c[i]? = some d ∧ CellsAt ρ w d.1 d.2.1 blk.cells ∧ (0 < blk.cells.len → F d.1)

theorem viewA_ok {ρ0 : Ren} {h : Heap} {w : World} {H : Nat → Ent} {Q : Nat → Prop} (hs : Sim ρ0 h w) {s : Sh} {a : AV} {v : Value} (hv : VR ρ0 a v) {y : s.T} {bs : List Nat} {c : Bool} (hvw : viewA H s a = some (y, bs, c)) (hH : ∀ b ∈ bs, h.get b = H b) (hQ : ∀ b ∈ bs, Q b) (hc : c = true) :
    ∃ cs, Views w ρ0.base (From ρ0 h Q) s y cs ∧ ∀ (ρ : Ren) next, VRs ρ (s.cells y next) cs → VR ρ (s.arg y next) v := by
  unfold viewA at hvw
  split at hvw
  case h_2 => cases hvw
  rename_i cs hcs
  split at hvw
  case h_2 => cases hvw
  rename_i y' b' c' hvc
  injection hvw with hvw; injection hvw with e1 e2; injection e2 with e2 e3
  subst e1; subst e2; subst e3
  have one : argCells s a = some [a] → (∀ next, s.cells y' next = [s.arg y' next]) → ∃ cs, Views w ρ0.base (From ρ0 h Q) s y' cs ∧ ∀ (ρ : Ren) next, VRs ρ (s.cells y' next) cs → VR ρ (s.arg y' next) v := by
    intro h1 h2
    rw [h1] at hcs; injection hcs with hcs; subst hcs
    obtain ⟨v1, v2, g1, g2, g3⟩ := viewC_ok hs s [a] [v] (by simp only [VRs]; exact ⟨hv, trivial⟩) y' b' c' [] hvc hH hQ hc
    have : v2 = [] := by
      cases v2 with
      | nil => rfl
      | cons => simp [VRs] at g2
    subst this
    simp at g1; subst g1
    refine ⟨[v], g3, fun ρ next hr => ?_⟩
    rw [h2] at hr
    simpa [VRs] using hr
  cases s with
  | int k => exact one rfl fun _ => rfl
  | bool => exact one rfl fun _ => rfl
  | str => exact one rfl fun _ => rfl
  | sl e => exact one rfl fun _ => rfl
  | rows e => exact one rfl fun _ => rfl
  | st l =>
    have hag : ∃ us, v = .agg us ∧ VRs ρ0 cs us.toList := by
      unfold argCells at hcs
      split at hcs
      · rename_i e; injection e with e; subst e
        injection hcs with hcs; subst hcs
        simp only [VR] at hv; exact hv
      · rename_i e; injection e with e; subst e
        injection hcs with hcs; subst hcs
        simp only [VR] at hv; exact ⟨_, hv, VRs.vals _⟩
      · cases hcs
      · exfalso; simp_all
    obtain ⟨us, hu, hr⟩ := hag
    obtain ⟨v1, v2, g1, g2, g3⟩ := viewC_ok hs (.st l) cs us.toList hr y' b' c' [] hvc hH hQ hc
    have : v2 = [] := by
      cases v2 with
      | nil => rfl
      | cons => simp [VRs] at g2
    subst this
    simp at g1
    refine ⟨v1, g3, fun ρ next hr => ?_⟩
    simp only [Sh.arg, VR]
    exact ⟨us, hu, by rw [g1]; simpa [Sh.cells] using hr⟩

theorem viewArgs_ok {ρ0 : Ren} {h : Heap} {w : World} {H : Nat → Ent} {Q : Nat → Prop} (hs : Sim ρ0 h w) : ∀ (l : List Sh) (as : List AV) (vs : List Value), VRs ρ0 as vs → ∀ (y : Sh.Ts l) (bs : List Nat) (c : Bool), viewArgs H l as = some (y, bs, c) → (∀ b ∈ bs, h.get b = H b) → (∀ b ∈ bs, Q b) → c = true → ViewsA w ρ0.base (From ρ0 h Q) l y vs
  | [], [], [], _, y, bs, c, _, _, _, _ => ⟨[], rfl, fun ρ next _ _ => ⟨by simp [Sh.args, VRs], fun i blk h => by simp [Sh.entss] at h⟩⟩
  | [], [], _ :: _, hv, _, _, _, _, _, _, _ => by simp [VRs] at hv
  | [], _ :: _, _, _, _, _, _, h, _, _, _ => by simp [viewArgs] at h
  | _ :: _, [], _, _, _, _, _, h, _, _, _ => by simp [viewArgs] at h
  | _ :: _, _ :: _, [], hv, _, _, _, _, _, _, _ => by simp [VRs] at hv
  | s :: l, a :: as, v :: vs, hv, y, bs, c, hvw, hH, hQ, hc => by
    simp only [VRs] at hv
    simp only [viewArgs] at hvw
    split at hvw
    case h_2 => cases hvw
    rename_i y0 b0 c0 h0
    split at hvw
    case h_2 => cases hvw
    rename_i z b1 c1 h1
    injection hvw with hvw; injection hvw with e1 e2; injection e2 with e2 e3
    subst e1; subst e2; subst e3
    simp only [Bool.and_eq_true] at hc
    obtain ⟨cs, ⟨d1, l1, f1⟩, harg⟩ := viewA_ok hs hv.1 h0 (fun b hb => hH b (List.mem_append.2 (.inl hb))) (fun b hb => hQ b (List.mem_append.2 (.inl hb))) hc.1
    obtain ⟨d2, l2, f2⟩ := viewArgs_ok hs l as vs hv.2 z b1 c1 h1 (fun b hb => hH b (List.mem_append.2 (.inr hb))) (fun b hb => hQ b (List.mem_append.2 (.inr hb))) hc.2
    refine ⟨d1 ++ d2, by simp [Sh.nes, l1, l2], fun ρ next hb hρ => ?_⟩
    obtain ⟨a1, a2⟩ := f1 ρ next hb fun i d hi => hρ i d (by rw [List.getElem?_append_left]; exact hi; exact (List.getElem?_eq_some_iff.1 hi).1)
    obtain ⟨b1, b2⟩ := f2 ρ (next + s.ne) hb fun i d hi => by
      have := hρ (s.ne + i) d (by rw [List.getElem?_append_right (by omega), l1, Nat.add_sub_cancel_left]; exact hi)
      rw [Nat.add_assoc]; exact this
    refine ⟨by simp only [Sh.args, VRs]; exact ⟨harg ρ next a1, b1⟩, fun i blk hi => ?_⟩
    simp only [Sh.entss] at hi
    have el := ents_length s y0
    by_cases hil : i < s.ne
    · rw [List.getElem?_append_left (by omega)] at hi
      obtain ⟨d, h3, h4⟩ := a2 i blk hi
      exact ⟨d, by rw [List.getElem?_append_left (by omega)]; exact h3, h4⟩
    · rw [List.getElem?_append_right (by omega), el] at hi
      obtain ⟨d, h3, h4⟩ := b2 (i - s.ne) blk hi
      exact ⟨d, by rw [List.getElem?_append_right (by omega), l1]; exact h3, h4⟩

theorem inside_of18 {ρ : Ren} {W : World} {b o : Nat} {cs : Cells} (h : CellsAt ρ W b o cs) (hl : 0 < cs.len) : b < W.heap.size := by
  have key : ∀ off cv, W.cell? ⟨b, off, none⟩ = some cv → b < W.heap.size := fun off cv h => by
    rcases Nat.lt_or_ge b W.heap.size with h' | h'
    · exact h'
    · simp [World.cell?, Array.getElem?_eq_none h'] at h
  cases cs with
  | lit l => obtain ⟨cv, h1, _⟩ := h 0 l[0] (List.getElem?_eq_getElem hl); exact key _ cv h1
  | sym l => exact key _ _ (h 0 l[0] (List.getElem?_eq_getElem hl))
  | rows l => obtain ⟨cv, h1, _⟩ := h 0 l[0] (List.getElem?_eq_getElem hl); exact key _ cv h1
  | arr s l => exact key _ _ (h 0 (s.flatl l)[0] (List.getElem?_eq_getElem hl))
  | arrs s l => obtain ⟨cv, h1, _⟩ := h 0 l[0] (List.getElem?_eq_getElem hl); exact key _ cv h1

theorem get_entss {l : List Sh} {y : Sh.Ts l} {b : Nat} {blk : Blk} (hb : Heap.get (Sh.entss l y) b = .live blk) : (Sh.entss l y)[b]? = some (.live blk) := by
  simp only [Heap.get, List.getD_eq_getElem?_getD] at hb
  cases hq : (Sh.entss l y)[b]? with
  | none => rw [hq] at hb; cases hb
  | some e => rw [hq] at hb; simp at hb; rw [hb]
theorem entss_norw {l : List Sh} {y : Sh.Ts l} {b : Nat} {blk : Blk} (hb : Heap.get (Sh.entss l y) b = .live blk) : blk.rw = false := by
  obtain ⟨blk', h3, h4, _⟩ := entss_live l y _ (List.mem_of_getElem? (get_entss hb))
  injection h3 with h3; subst h3; exact h4

theorem sim_views {W B : World} (hB : B.heap.size ≤ W.heap.size) (hO : ∀ i, i < B.heap.size → W.heap[i]? = B.heap[i]?) {l : List Sh} {vs : List Value} {y : Sh.Ts l} {F : Nat → Prop} (h : ViewsA W B F l y vs) : ∃ ρ : Ren, ρ.base = B ∧ VRs ρ (Sh.args l y 0) vs ∧ Sim ρ (Sh.entss l y) W ∧ ∀ b blk d, Heap.get (Sh.entss l y) b = .live blk → ρ b = some d → 0 < blk.cells.len → F d.1 := by
  obtain ⟨c, hc, hf⟩ := h
  have hel := entss_length l y
  obtain ⟨h1, h2⟩ := hf ⟨fun b => c[b]?, B⟩ 0 rfl (fun i d hi => by simpa using hi)
  refine ⟨_, rfl, h1, ?_, fun b blk d hb hd hl => ?_⟩
  rotate_left
  · obtain ⟨d', h3, _, h5⟩ := h2 b blk (get_entss hb)
    have : some d' = some d := h3.symm.trans hd
    injection this with this; subst this; exact h5 hl
  have norw : ∀ b blk, Heap.get (Sh.entss l y) b = .live blk → blk.rw = true → False := fun b blk hb hr => by
    rw [entss_norw hb] at hr; cases hr
  refine ⟨fun b blk hb => ?_, fun b blk c' hb hc' => ?_, fun b blk c' hb hc' hs => ?_, fun b blk c' hb hc' hr => (norw b blk hb hr).elim, fun b b' blk blk' c' d' hb hb' hne hc' hd' hr => (norw b blk hb hr).elim, fun b hb => ?_, hB, hO, fun b blk c' hb hc' hr => (norw b blk hb hr).elim⟩
  · obtain ⟨d, h3, _⟩ := h2 b blk (get_entss hb); exact ⟨d, h3⟩
  · obtain ⟨d, h3, h4, _⟩ := h2 b blk (get_entss hb)
    have : some d = some c' := h3.symm.trans hc'
    injection this with this; subst this; exact h4
  · obtain ⟨d, h3, h4, _⟩ := h2 b blk (get_entss hb)
    have : some d = some c' := h3.symm.trans hc'
    injection this with this; subst this
    refine inside_of18 h4 ?_
    rcases hs with hs | hs
    · exact hs
    · exact (norw b blk hb hs.1).elim
  · show c[b]? = none
    have hb' : Heap.get (Sh.entss l y) b = .free := hb
    simp only [Heap.get, List.getD_eq_getElem?_getD] at hb'
    cases hq : (Sh.entss l y)[b]? with
    | none =>
      have : (Sh.entss l y).length ≤ b := by simpa using hq
      simp; omega
    | some e =>
      obtain ⟨blk, h3, _⟩ := entss_live l y e (List.mem_of_getElem? hq)
      rw [hq, h3] at hb'; simp at hb'

/-! ### new blocks behind a call -/
def wbNew : Nat → List Ent → List (Nat × Ent)
  | _, [] => []
  | k, e :: es => (k, e) :: wbNew (k + 1) es
theorem get_wbNew : ∀ (es : List Ent) (new : Nat) (h : Heap) (x : Nat), (h.upds (wbNew new es)).get x = if new ≤ x ∧ x < new + es.length then es.getD (x - new) .free else h.get x
  | [], new, h, x => by
    simp only [wbNew, Heap.upds, List.length_nil]
    rw [if_neg (by omega)]
  | e :: es, new, h, x => by
    simp only [wbNew, Heap.upds]
    rw [get_wbNew es (new + 1) _ x]
    by_cases h1 : new + 1 ≤ x ∧ x < new + 1 + es.length
    · rw [if_pos h1, if_pos (by simp; omega)]
      rw [show x - new = (x - (new + 1)) + 1 by omega]
      simp
    · rw [if_neg h1, Heap.get_upd]
      by_cases h2 : x = new
      · subst h2
        rw [if_pos rfl, if_pos (by simp)]
        simp
      · rw [if_neg h2, if_neg (by simp; omega)]

/-- An entry that a call may lay anew: parts of one shape, to be written. -/
def AV.isVal : AV → Bool
  | .val _ => true
  | _ => false
def Ent.own : Ent → Bool
  | .live blk => blk.rw && (match blk.cells with
    | .arr _ _ => true
    | .lit l => l.all AV.isVal
    | _ => false)
  | _ => false

theorem after_pure {Γ : Ctx} {ρ : Ren} {h : Heap} {w : World} (hI : Inv Γ ρ h w) {hg : Heap} (hgn : ∀ b blk, hg.get b = .live blk → blk.rw = false) {ρg ρg' : Ren} {es : List Ent} (hes : es.all Ent.own = true) {w' : World} (hJ : Inv ⟨hg.length, ρg, hg, w⟩ ρg' (hg ++ es) w')
    {new : Nat} (hn : Γ.n0 ≤ new) (hfree : ∀ x, new ≤ x → x < new + es.length → h.get x = .free) :
    ∃ ρ', ρ.le ρ' ∧ (∀ k, k < es.length → ρ' (new + k) = ρg' (hg.length + k)) ∧ Inv Γ ρ' (h.upds (wbNew new es)) w' := by
  let ρ' : Ren := ⟨fun x => if new ≤ x ∧ x < new + es.length then ρg' (hg.length + (x - new)) else ρ x, ρ.base⟩
  have ρ_old : ∀ x, ¬ (new ≤ x ∧ x < new + es.length) → ρ' x = ρ x := fun x hx => by simp only [ρ']; rw [if_neg hx]
  have ρ_new : ∀ x, (new ≤ x ∧ x < new + es.length) → ρ' x = ρg' (hg.length + (x - new)) := fun x hx => by simp only [ρ']; rw [if_pos hx]
  have notown : ∀ i, ¬ Ctx.owned ⟨hg.length, ρg, hg, w⟩ i := by
    rintro i ⟨b, blk, c, _, hb, hr, _⟩
    rw [hgn b blk hb] at hr; cases hr
  have keep : ∀ i, i < w.heap.size → w'.heap[i]? = w.heap[i]? := fun i hi => hJ.keep i hi (notown i)
  have hsz : w.heap.size ≤ w'.heap.size := hJ.size
  have hle : ρ.le ρ' := ⟨fun x d hx => by
    rw [ρ_old x fun hx' => by rw [hI.sim.dom x (hfree x hx'.1 hx'.2)] at hx; cases hx]; exact hx, rfl⟩
  -- the entries
  have ent : ∀ x blk, (h.upds (wbNew new es)).get x = .live blk → ((new ≤ x ∧ x < new + es.length) ∧ Heap.get (hg ++ es) (hg.length + (x - new)) = .live blk ∧ blk.rw = true ∧ (∀ (ρ1 ρ2 : Ren) w cb co, CellsAt ρ1 w cb co blk.cells → CellsAt ρ2 w cb co blk.cells)) ∨ (¬ (new ≤ x ∧ x < new + es.length) ∧ h.get x = .live blk) := by
    intro x blk hx
    rw [get_wbNew] at hx
    by_cases hw : new ≤ x ∧ x < new + es.length
    · rw [if_pos hw] at hx
      have h1 : es[x - new]? = some (.live blk) := by
        have : x - new < es.length := by omega
        rw [List.getD_eq_getElem?_getD, List.getElem?_eq_getElem this] at hx
        rw [List.getElem?_eq_getElem this]; simpa using hx
      have h2 := List.all_eq_true.1 hes _ (List.mem_of_getElem? h1)
      simp only [Ent.own, Bool.and_eq_true] at h2
      refine .inl ⟨hw, ?_, h2.1, ?_⟩
      · simp only [Heap.get, List.getD_eq_getElem?_getD]
        rw [List.getElem?_append_right (by omega), Nat.add_sub_cancel_left, h1]; rfl
      · obtain ⟨_, h3⟩ := h2
        split at h3
        · rename_i s l hc; rw [hc]; exact fun _ _ _ _ _ h => h
        · rename_i l hc
          rw [hc]
          intro ρ1 ρ2 w cb co hca i v hi
          obtain ⟨cv, q1, q2⟩ := hca i v hi
          have hv := List.all_eq_true.1 h3 v (List.mem_of_getElem? hi)
          cases v with
          | val u => exact ⟨cv, q1, by simpa [VR] using q2⟩
          | _ => simp [AV.isVal] at hv
        · cases h3
    · rw [if_neg hw] at hx; exact .inr ⟨hw, hx⟩
  have freshg : ∀ b blk c, Heap.get (hg ++ es) b = .live blk → ρg' b = some c → blk.rw = true → blk.solid c → w.heap.size ≤ c.1 := fun b blk c hb hc hr hs => by
    rcases hJ.fresh b blk c hb hc hr hs with h1 | h1
    · exact h1
    · exact absurd h1 (notown _)
  refine ⟨ρ', hle, fun k hk => by rw [ρ_new _ (by omega)]; congr 1; omega, ⟨⟨?_, ?_, ?_, ?_, ?_, ?_, ?_, ?_, ?_⟩, ?_, hI.sameBase, hJ.os.trans hI.os, hJ.tape.trans hI.tape, hJ.output.trans hI.output, Nat.le_trans hI.size hsz, ?_, ?_⟩⟩
  · intro x blk hx
    rcases ent x blk hx with ⟨h1, h2, _⟩ | ⟨h1, h2⟩
    · rw [ρ_new x h1]; exact hJ.sim.some_ _ blk h2
    · rw [ρ_old x h1]; exact hI.sim.some_ x blk h2
  · intro x blk c hx hc
    rcases ent x blk hx with ⟨h1, h2, _, h3⟩ | ⟨h1, h2⟩
    · rw [ρ_new x h1] at hc
      have := hJ.sim.cells _ blk c h2 hc
      exact h3 _ _ _ _ _ this
    · rw [ρ_old x h1] at hc
      refine ((hI.sim.cells x blk c h2 hc).of_cell fun hpos o => ?_).mono hle
      exact cell_of_heap (keep _ (hI.sim.inside x blk c h2 hc (.inl hpos))) o
  · intro x blk c hx hc hs
    rcases ent x blk hx with ⟨h1, h2, _⟩ | ⟨h1, h2⟩
    · rw [ρ_new x h1] at hc; exact hJ.sim.inside _ blk c h2 hc hs
    · rw [ρ_old x h1] at hc; have := hI.sim.inside x blk c h2 hc hs; omega
  · intro x blk c hx hc hr hs
    rcases ent x blk hx with ⟨h1, h2, _⟩ | ⟨h1, h2⟩
    · rw [ρ_new x h1] at hc; exact hJ.sim.own _ blk c h2 hc hr hs
    · rw [ρ_old x h1] at hc
      obtain ⟨k1, cs, el, k2, k3⟩ := hI.sim.own x blk c h2 hc hr hs
      exact ⟨k1, cs, el, by rw [keep _ (hI.sim.inside x blk c h2 hc hs)]; exact k2, k3⟩
  · intro x y xb yb c d hx hy hne hc hd hr hs hs'
    rcases ent x xb hx with ⟨h1, h2, _⟩ | ⟨h1, h2⟩
    · rw [ρ_new x h1] at hc
      rcases ent y yb hy with ⟨k1, k2, _⟩ | ⟨k1, k2⟩
      · rw [ρ_new y k1] at hd
        exact hJ.sim.apart _ _ xb yb c d h2 k2 (by omega) hc hd hr hs hs'
      · rw [ρ_old y k1] at hd
        have := hI.sim.inside y yb d k2 hd hs'
        have := freshg _ xb c h2 hc hr hs
        omega
    · rw [ρ_old x h1] at hc
      rcases ent y yb hy with ⟨k1, k2, k3, _⟩ | ⟨k1, k2⟩
      · rw [ρ_new y k1] at hd
        have := hI.sim.inside x xb c h2 hc hs
        have := freshg _ yb d k2 hd k3 hs'
        omega
      · rw [ρ_old y k1] at hd
        exact hI.sim.apart x y xb yb c d h2 k2 hne hc hd hr hs hs'
  · intro x hx
    rw [get_wbNew] at hx
    by_cases hw : new ≤ x ∧ x < new + es.length
    · rw [if_pos hw] at hx
      have : x - new < es.length := by omega
      rw [List.getD_eq_getElem?_getD, List.getElem?_eq_getElem this] at hx
      have h2 := List.all_eq_true.1 hes _ (List.getElem_mem this)
      simp at hx; rw [hx] at h2; cases h2
    · rw [if_neg hw] at hx
      rw [ρ_old x hw]; exact hI.sim.dom x hx
  · show ρ.base.heap.size ≤ _
    have := hI.sim.baseLe; omega
  · intro i hi
    have hi : i < ρ.base.heap.size := hi
    rw [keep i (by have := hI.sim.baseLe; omega)]; exact hI.sim.old i hi
  · intro x blk c hx hc hr hs
    show ρ.base.heap.size ≤ _
    rcases ent x blk hx with ⟨h1, h2, _⟩ | ⟨h1, h2⟩
    · rw [ρ_new x h1] at hc
      have := freshg _ blk c h2 hc hr hs
      have := hI.sim.baseLe; omega
    · rw [ρ_old x h1] at hc; exact hI.sim.above x blk c h2 hc hr hs
  · intro b hb
    rw [ρ_old b (by omega)]; exact hI.agree b hb
  · intro i hi hno
    rw [keep i (by have := hI.size; omega)]; exact hI.keep i hi hno
  · intro x blk c hx hc hr hs
    rcases ent x blk hx with ⟨h1, h2, _⟩ | ⟨h1, h2⟩
    · rw [ρ_new x h1] at hc
      have := freshg _ blk c h2 hc hr hs
      have := hI.size
      exact .inl (by omega)
    · rw [ρ_old x h1] at hc; exact hI.fresh x blk c h2 hc hr hs

theorem Invokes.mono {P : Program} {f : FuncId} {args : Array Value} {w : World} {R R' : Ending → World → Prop} (h : Invokes P f args w R) (hr : ∀ e w, R e w → R' e w) : Invokes P f args w R' := by
  unfold Invokes at *
  generalize (callFunc f args).run P w = r at h
  cases r with
  | halt x w' => exact h.elim
  | ok nx w' =>
    cases nx with
    | enter g as => exact Calls.mono h hr
    | value v => exact hr _ _ h
    | _ => exact h.elim

/-! ### results, numbered anew -/
theorem VRs.nil_any {ρ ρ' : Ren} {cs : List Value} (h : VRs ρ [] cs) : VRs ρ' [] cs := by
  cases cs with
  | nil => simp [VRs]
  | cons => simp [VRs] at h
mutual
theorem cells_shift {ρ ρ' : Ren} : ∀ (s : Sh) (y : s.T) (n new : Nat), (∀ k, k < s.ne → ρ' (new + k) = ρ (n + k)) → ∀ cs, VRs ρ (s.cells y n) cs → VRs ρ' (s.cells y new) cs
  | .int k, y, n, new, _, [], h => by simp [Sh.cells, VRs] at h
  | .int k, y, n, new, _, v :: cs, h => by
    simp only [Sh.cells, VRs, VR] at h ⊢
    exact ⟨h.1, h.2.nil_any⟩
  | .bool, y, n, new, _, [], h => by simp [Sh.cells, VRs] at h
  | .bool, y, n, new, _, v :: cs, h => by
    simp only [Sh.cells, VRs, VR] at h ⊢
    exact ⟨h.1, h.2.nil_any⟩
  | .str, y, n, new, _, [], h => by simp [Sh.cells, VRs] at h
  | .str, y, n, new, _, v :: cs, h => by
    simp only [Sh.cells, VRs, VR] at h ⊢
    exact ⟨h.1, h.2.nil_any⟩
  | .st l, y, n, new, hk, cs, h => by
    simp only [Sh.cells] at *
    exact cellss_shift l y n new hk cs h
  | .sl e, y, n, new, hk, cs, h => by
    have h0 := hk 0 (by simp [Sh.ne])
    simp only [Nat.add_zero] at h0
    cases cs with
    | nil => simp [Sh.cells, VRs] at h
    | cons v cs =>
      simp only [Sh.cells, VRs] at h ⊢
      refine ⟨?_, h.2.nil_any⟩
      have h1 := h.1
      simp only [VR] at h1 ⊢
      rw [h0]; exact h1
  | .rows e, y, n, new, hk, cs, h => by
    have h0 := hk 0 (by simp [Sh.ne])
    simp only [Nat.add_zero] at h0
    cases cs with
    | nil => simp [Sh.cells, VRs] at h
    | cons v cs =>
      simp only [Sh.cells, VRs] at h ⊢
      refine ⟨?_, h.2.nil_any⟩
      have h1 := h.1
      simp only [VR] at h1 ⊢
      rw [h0]; exact h1
theorem cellss_shift {ρ ρ' : Ren} : ∀ (l : List Sh) (y : Sh.Ts l) (n new : Nat), (∀ k, k < Sh.nes l → ρ' (new + k) = ρ (n + k)) → ∀ cs, VRs ρ (Sh.cellss l y n) cs → VRs ρ' (Sh.cellss l y new) cs
  | [], _, _, _, _, cs, h => h.nil_any
  | s :: l, y, n, new, hk, cs, h => by
    simp only [Sh.cellss] at h ⊢
    obtain ⟨v1, v2, rfl, h1, h2⟩ := VRs.split _ _ _ h
    refine (cells_shift s y.1 n new (fun k hl => hk k (by simp only [Sh.nes]; omega)) v1 h1).append (cellss_shift l y.2 (n + s.ne) (new + s.ne) (fun k hl => ?_) v2 h2)
    have := hk (s.ne + k) (by simp only [Sh.nes]; omega)
    rw [Nat.add_assoc, Nat.add_assoc]; exact this
end
theorem arg_shift {ρ ρ' : Ren} (s : Sh) (y : s.T) (n new : Nat) (hk : ∀ k, k < s.ne → ρ' (new + k) = ρ (n + k)) {v : Value} (h : VR ρ (s.arg y n) v) : VR ρ' (s.arg y new) v := by
  have one : s.cells y n = [s.arg y n] → s.cells y new = [s.arg y new] → VR ρ' (s.arg y new) v := fun e1 e2 => by
    have := cells_shift s y n new hk [v] (by rw [e1]; simp only [VRs]; exact ⟨h, trivial⟩)
    rw [e2] at this; simpa [VRs] using this
  cases s with
  | st l =>
    simp only [Sh.arg, VR] at h ⊢
    obtain ⟨cs, h1, h2⟩ := h
    exact ⟨cs, h1, cellss_shift l y n new hk _ h2⟩
  | int k => exact one rfl rfl
  | bool => exact one rfl rfl
  | str => exact one rfl rfl
  | sl e => exact one rfl rfl
  | rows e => exact one rfl rfl
theorem args_shift {ρ ρ' : Ren} : ∀ (l : List Sh) (y : Sh.Ts l) (n new : Nat), (∀ k, k < Sh.nes l → ρ' (new + k) = ρ (n + k)) → ∀ cs, VRs ρ (Sh.args l y n) cs → VRs ρ' (Sh.args l y new) cs
  | [], _, _, _, _, cs, h => h.nil_any
  | s :: l, y, n, new, hk, [], h => by simp [Sh.args, VRs] at h
  | s :: l, y, n, new, hk, v :: cs, h => by
    simp only [Sh.args, VRs] at h ⊢
    refine ⟨arg_shift s y.1 n new (fun k hl => hk k (by simp only [Sh.nes]; omega)) h.1, args_shift l y.2 (n + s.ne) (new + s.ne) (fun k hl => ?_) cs h.2⟩
    have := hk (s.ne + k) (by simp only [Sh.nes]; omega)
    rw [Nat.add_assoc, Nat.add_assoc]; exact this

/-- What a function hands out, whose results have these shapes; its blocks numbered from n on. -/
def outV (rs : List Sh) (y : Sh.Ts rs) (n : Nat) : AV := resV (Sh.args rs y n)
theorem outV_shift {ρ ρ' : Ren} (rs : List Sh) (y : Sh.Ts rs) (n new : Nat) (hk : ∀ k, k < Sh.nes rs → ρ' (new + k) = ρ (n + k)) {v : Value} (h : VR ρ (outV rs y n) v) : VR ρ' (outV rs y new) v := by
  have len : ∀ (l : List Sh) (y : Sh.Ts l) n, (Sh.args l y n).length = l.length := by
    intro l
    induction l with
    | nil => intros; rfl
    | cons s l ih => intro y n; simp [Sh.args, ih]
  unfold outV resV at *
  match rs, y, hk, h with
  | [s], y, hk, h =>
    simp only [Sh.args] at h ⊢
    exact arg_shift s y.1 n new (fun k hl => hk k (by simp only [Sh.nes]; omega)) h
  | [], y, hk, h =>
    simp only [Sh.args, VR] at h ⊢
    obtain ⟨vs, h1, h2⟩ := h
    exact ⟨vs, h1, h2.nil_any⟩
  | s :: s' :: l, y, hk, h =>
    simp only [Sh.args] at h ⊢
    simp only [VR] at h ⊢
    obtain ⟨vs, h1, h2⟩ := h
    exact ⟨vs, h1, args_shift (s :: s' :: l) y n new hk _ h2⟩
def rwEnt : Ent → Ent
  | .live b => .live { b with rw := true }
  | e => e
def newEnts (rs : List Sh) (y : Sh.Ts rs) : List Ent := (Sh.entss rs y).map rwEnt

/-- A function that only reads what it is handed: whatever the arguments, where the law tells an answer, that is what comes out. -/
def Reads (P : Program) (f : FuncId) (ss rs : List Sh) (law : Sh.Ts ss → Option (Sh.Ts rs)) : Prop :=
  ∀ x y, law x = some y → Does P f (Sh.args ss x 0) (Sh.entss ss x) (outV rs y (Sh.entss ss x).length) (Sh.entss ss x ++ newEnts rs y)

def readsS {P : Program} {β : Type} (ss rs : List Sh) (law : Sh.Ts ss → Option (Sh.Ts rs)) (H : Nat → Ent) (new : Nat) (args : List AV) (K : Eff → Option β) : Option β :=
  match viewArgs H ss args with
  | some (x, bs, c) => ifK c ((law x).bind fun y => ifK ((newEnts rs y).all Ent.own) (K { rb := bs, wb := wbNew new (newEnts rs y), nw := (newEnts rs y).length, val := outV rs y new }))
  | none => none

def Reads.summ {P : Program} {f : FuncId} {ss rs : List Sh} {law : Sh.Ts ss → Option (Sh.Ts rs)} (hr : Reads P f ss rs law) : Summ P where
  f := f
  S := fun H new args K => readsS (P := P) ss rs law H new args K
  ok := by
    intro β H new args K r hs
    unfold readsS at hs
    split at hs
    case h_2 => cases hs
    rename_i x bs c hv
    obtain ⟨hc, hs⟩ := ifK_some hs
    rw [Option.bind_eq_some_iff] at hs
    obtain ⟨y, hy, hs⟩ := hs
    obtain ⟨hown, hs⟩ := ifK_some hs
    refine ⟨_, hs, fun Γ ρ h w cargs hI hargs hH hn hfree => ?_⟩
    obtain ⟨ρg, _, h1, h2, _⟩ := sim_views hI.sim.baseLe hI.sim.old (viewArgs_ok (Q := fun _ => True) hI.sim ss args _ hargs x bs c hv hH (fun _ _ => trivial) hc)
    refine (hr x y hy ρg w cargs h2 h1).mono fun e w' ⟨ρg', cv, he, hvv, hJ⟩ => ?_
    have hnl : (newEnts rs y).length = Sh.nes rs := by simp [newEnts, entss_length]
    obtain ⟨ρ', g1, g2, g3⟩ := after_pure hI (fun b blk hb => entss_norw hb) hown hJ hn hfree
    exact ⟨ρ', cv, he, g1, outV_shift rs y _ new (fun k hk => g2 k (by omega)) hvv, g3⟩

end Go.Ab
/-
  CORE 19: a function that only reads: its law, out of its code.
-/
set_option linter.unusedVariables false
set_option linter.unusedSimpArgs false
namespace Go.Ab

def outK {P : Program} (fn : Func) (rs : List Sh) (e : Exit) (t : List AV) (h : Heap) : Option (Sh.Ts rs) :=
  match okExit e with
  | true => (match resA P t h fn.results.toList with
    | some vs => (match viewArgs h.get rs vs with
      | some (y, _, c) => ifK c (some y)
      | none => none)
    | none => none)
  | false => none

/-- What the code of a function tells of its arguments. -/
def codeLaw (P : Program) (env : Env P) (fuel : Nat) (L : Loops P env.Y) (fn : Func) (c : Code) (ss rs : List Sh) (x : Sh.Ts ss) : Option (Sh.Ts rs) :=
  codeK P env (Sh.nes ss) fuel L [] (.code c) (Sh.args ss x 0 ++ List.replicate (fn.ntmps - ss.length) (.val undef)) (Sh.entss ss x) fun e t h => outK (P := P) fn rs e t h

theorem Loops.fit_nil {P : Program} {Y : Ctx → Prop} {C : Code} : Loops.fit C ([] : Loops P Y) := by intro s hs; simp at hs
theorem Loops.fit_cons {P : Program} {Y : Ctx → Prop} {C : Code} {p : List Nat} {s : LSumm P Y} {L : Loops P Y} (h : subAt C p = some s.c) (hL : Loops.fit C L) : Loops.fit C ((p, s) :: L) := by
  intro x hx
  rcases List.mem_cons.1 hx with rfl | hx
  · exact h
  · exact hL x hx

theorem run_results_list {P : Program} {Γ : Ctx} {ρ : Ren} {h : Heap} {w : World} (hI : Inv Γ ρ h w) {t : List AV} {a : Act} (hV : VRs ρ t a.tmps.toList) {fn : Func} {vs : List AV} (hres : resA P t h fn.results.toList = some vs) :
    ∃ us cv, (results fn a.tmps).run P w = .ok cv w ∧ VRs ρ vs us ∧ ∀ (ρ' : Ren) (vs' : List AV), VRs ρ' vs' us → VR ρ' (resV vs') cv := by
  obtain ⟨us, k1, k2⟩ := run_results (P := P) hI hV fn.results.toList vs hres
  have hsz := k2.length
  have h5 : (fn.results.mapM fun r : ResultVar => (match r with
      | .tmp t => pure (a.tmps.getD t undef)
      | .cell x t => do loadVar t (← asAddr (a.tmps.getD x undef)) : Sem Value)).run P w = .ok us.toArray w := by
    rw [Array.mapM_eq_mapM_toList, map_eq_pure_bind, Sem.run_bind]
    exact (congrArg (fun r => Result.andThen r fun a w' => Sem.run P (pure a.toArray) w') k1).trans rfl
  by_cases h1 : us.length = 1
  · match us, h1, k2, h5 with
    | [u], _, k2, h5 =>
      refine ⟨[u], u, ?_, k2, fun ρ' vs' hv => ?_⟩
      · unfold results
        rw [Sem.run_bind]
        refine Eq.trans (congrArg (fun r => Result.andThen r _) h5) ?_
        simp [Result.andThen, pure, Sem.run]
      · match vs', hv.length, hv with
        | [v1], _, hv => simp only [VRs] at hv; exact hv.1
  · refine ⟨us, .tuple us.toArray, ?_, k2, fun ρ' vs' hv => ?_⟩
    · unfold results
      rw [Sem.run_bind]
      refine Eq.trans (congrArg (fun r => Result.andThen r _) h5) ?_
      simp [Result.andThen, h1, pure, Sem.run]
    · have hl := hv.length
      have : resV vs' = .tup vs' := by
        unfold resV
        split
        · simp at hl; omega
        · rfl
      rw [this]; simp only [VR]; exact ⟨us.toArray, rfl, by simpa using hv⟩

theorem args_length : ∀ (l : List Sh) (y : Sh.Ts l) n, (Sh.args l y n).length = l.length
  | [], _, _ => rfl
  | s :: l, y, n => by simp [Sh.args, args_length l]

/-- Nothing that was handed in may be written: behind the call it stands as it stood. -/
theorem settle {ρ ρ2 : Ren} {h0 h1 : Heap} {w w2 : World} (hS : Sim ρ h0 w) (hro : ∀ b blk, h0.get b = .live blk → blk.rw = false) (hI : Inv ⟨h0.length, ρ, h0, w⟩ ρ2 h1 w2) : Inv ⟨h0.length, ρ, h0, w⟩ ρ h0 w2 := by
  have notown : ∀ i, ¬ Ctx.owned ⟨h0.length, ρ, h0, w⟩ i := by
    rintro i ⟨b, blk, c, _, hb, hr, _⟩
    rw [hro b blk hb] at hr; cases hr
  have keep : ∀ i, i < w.heap.size → w2.heap[i]? = w.heap[i]? := fun i hi => hI.keep i hi (notown i)
  have hsz : w.heap.size ≤ w2.heap.size := hI.size
  have norw : ∀ b blk, h0.get b = .live blk → blk.rw = true → False := fun b blk hb hr => by rw [hro b blk hb] at hr; cases hr
  refine ⟨⟨hS.some_, fun b blk c hb hc => ?_, fun b blk c hb hc hs => ?_, fun b blk c hb hc hr => (norw b blk hb hr).elim, fun b b' blk blk' c c' hb hb' hne hc hc' hr => (norw b blk hb hr).elim, hS.dom, ?_, fun i hi => ?_, fun b blk c hb hc hr => (norw b blk hb hr).elim⟩, fun _ _ => rfl, rfl, hI.os, hI.tape, hI.output, hI.size, hI.keep, fun b blk c hb hc hr => (norw b blk hb hr).elim⟩
  · exact (hS.cells b blk c hb hc).of_cell fun hpos o => cell_of_heap (keep _ (hS.inside b blk c hb hc (.inl hpos))) o
  · have := hS.inside b blk c hb hc hs; omega
  · have := hS.baseLe; omega
  · rw [keep i (by have := hS.baseLe; omega)]; exact hS.old i hi

theorem Reads.of_code {P : Program} (hm : P.follows .mixedOrders = true) {f : FuncId} {fn : Func} {c : Code} (hf : P.funcs[f]? = some fn) (hb : fn.body = some c) (hname : (fn.name == "runtime.NumGoroutine") = false)
    (env : Env P) (fuel : Nat) {L : Loops P env.Y} (hL : L.fit c) {ss rs : List Sh} (hrs : Sh.nes rs = 0) (hy : ∀ Γ, env.Y Γ := by exact fun _ => True.intro) : Reads P f ss rs (codeLaw P env fuel L fn c ss rs) := by
  intro x y hxy ρ w cargs hsim hargs
  unfold codeLaw at hxy
  have hlen0 := entss_length ss x
  obtain ⟨e, t1, h1, hk, hn1, hg⟩ := codeK_ok hm fuel L [] (.code c) _ _ _ c hL (.inr rfl) (by omega) hxy
  unfold outK at hk
  split at hk
  case h_2 => cases hk
  rename_i hex
  split at hk
  case h_2 => cases hk
  rename_i vs hvs
  split at hk
  case h_2 => cases hk
  rename_i y' bs cc hview
  obtain ⟨hcc, hk⟩ := ifK_some hk
  injection hk with hk; subst hk
  unfold Invokes
  have hcall : (callFunc f cargs).run P w = .ok (.enter f cargs) w := by
    simp only [callFunc, program, Sem.run_bind, Sem.run, Result.andThen, hf]
    simp only [hname, hb, Option.isNone_some, Bool.false_eq_true, if_false]
    rfl
  rw [hcall]
  simp only
  have hlen := hargs.length
  rw [args_length] at hlen
  have hro : ∀ b blk, Heap.get (Sh.entss ss x) b = .live blk → blk.rw = false := fun b blk hb => entss_norw hb
  have hI : Inv ⟨(Sh.entss ss x).length, ρ, Sh.entss ss x, w⟩ ρ (Sh.entss ss x) w :=
    ⟨hsim, fun _ _ => rfl, rfl, rfl, rfl, rfl, Nat.le_refl _, fun _ _ _ => rfl, fun b blk d hb hd hrw hs => by rw [hro b blk hb] at hrw; cases hrw⟩
  have hV : VRs ρ (Sh.args ss x 0 ++ List.replicate (fn.ntmps - ss.length) (.val undef)) ({ tmps := cargs ++ Array.replicate (fn.ntmps - cargs.size) undef, defers := [] } : Act).tmps.toList := by
    simp only [Array.toList_append, Array.toList_replicate]
    refine hargs.append ?_
    rw [hlen]
    simpa using VRs.replicate (ρ := ρ) (a := .val undef) (v := undef) (by simp [VR]) (fn.ntmps - cargs.size)
  refine calls_of_runs hf hb hg hex hlen0 (hy _) hI hV fun ρ2 w2 a2 g2 g3 => ?_
  obtain ⟨us, cv, k1, k2, k3⟩ := run_results_list (P := P) g2 g3 hvs
  have hva := viewArgs_ok (Q := fun _ => True) g2.sim rs vs us k2 y' bs cc hview (fun b _ => rfl) (fun _ _ => trivial) hcc
  have hout : VR ρ (outV rs y' (Sh.entss ss x).length) cv := by
    obtain ⟨c0, hc0, hvv⟩ := hva
    have : c0 = [] := List.length_eq_zero_iff.1 (by rw [hc0, hrs])
    subst this
    refine k3 ρ _ ?_
    have := (hvv ⟨ρ.f, ρ2.base⟩ 0 rfl (fun i d hi => by simp at hi)).1
    exact args_shift rs y' 0 _ (fun k hk => by omega) us this
  have hset := settle hsim hro g2
  have hnew : newEnts rs y' = [] := List.length_eq_zero_iff.1 (by simp [newEnts, entss_length, hrs])
  have hfin : ∃ ρ' cv', cv = cv' ∧ VR ρ' (outV rs y' (Sh.entss ss x).length) cv' ∧ Inv ⟨(Sh.entss ss x).length, ρ, Sh.entss ss x, w⟩ ρ' (Sh.entss ss x ++ newEnts rs y') w2 :=
    ⟨ρ, cv, rfl, hout, by rw [hnew, List.append_nil]; exact hset⟩
  obtain ⟨ρ', cv', h7, h8, h9⟩ := hfin
  subst h7
  exact ⟨cv, k1, ρ', cv, rfl, h8, h9⟩

theorem Reads.to {P : Program} {f : FuncId} {ss rs : List Sh} {law law' : Sh.Ts ss → Option (Sh.Ts rs)} (h : Reads P f ss rs law) (he : ∀ x, law x = law' x) : Reads P f ss rs law' := fun x y hxy => h x y (by rw [he]; exact hxy)

end Go.Ab
