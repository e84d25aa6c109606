/-
  CORE 15: a function's code, evaluated with what comes behind it; the contract of a function.
-/
import Derived.Test.YtiikkepnpidilaaCore14
import Derived.LoopN
import Derived.Scope
set_option linter.unusedVariables false
set_option linter.unusedSimpArgs false
namespace Go.Ab

/-! ### knowing less: slots that are not looked at any more, blocks let go or numbered anew -/
def distinct : List Nat → Bool
  | [] => true
  | x :: l => !l.contains x && distinct l
def blockObs (σ : List (Nat × Nat)) (n : Nat) (h : Heap) : List (Nat × Nat) → List Ent → Option (List Ob)
  | [], [] => some []
  | (x, _) :: s, e :: es => match e with
    | .free => none
    | .dead => blockObs σ n h s es
    | .live b => (blockObs σ n h s es).map fun l => Ob.ent (h.get x) (.live (renBlk σ n 0 b)) :: l
  | _, _ => none
def startsSame : Nat → Nat → List Nat → Bool
  | 0, _, _ => true
  | n + 1, i, x :: l => decide (x = i) && startsSame n (i + 1) l
  | _ + 1, _, [] => false
def weakObs (n0 : Nat) (σ : List Nat) (t t2 : List AV) (h h2 : Heap) : Option (List Ob) :=
  let σ' := σ.map fun x => (x, 0)
  let n := h2.length
  if σ.length = n ∧ n0 ≤ n ∧ startsSame n0 0 σ = true ∧ distinct σ = true ∧ (okL n t2 && okEnts n h2) = true then
    (blockObs σ' n h σ' h2).map fun l => Ob.avs (adapts (renL σ' n 0 t2) t) (renL σ' n 0 t2) :: l
  else none

theorem startsSame_spec : ∀ (n i : Nat) (l : List Nat), startsSame n i l = true → ∀ k, k < n → l[k]? = some (i + k)
  | 0, _, _, _, k, hk => by omega
  | n + 1, i, x :: l, h, k, hk => by
    simp only [startsSame, Bool.and_eq_true, decide_eq_true_eq] at h
    cases k with
    | zero => simp [h.1]
    | succ k => simpa [Nat.add_assoc, Nat.add_comm 1 k] using startsSame_spec n (i + 1) l h.2 k (by omega)
  | n + 1, _, [], h, _, _ => by simp [startsSame] at h
theorem distinct_spec : ∀ (l : List Nat), distinct l = true → ∀ (i j x y : Nat), i < j → l[i]? = some x → l[j]? = some y → x ≠ y
  | [], _, i, j, x, y, _, h, _ => by simp at h
  | a :: l, h, i, j, x, y, hij, hi, hj => by
    simp only [distinct, Bool.and_eq_true, Bool.not_eq_true'] at h
    cases j with
    | zero => omega
    | succ j =>
      cases i with
      | zero =>
        simp at hi hj; subst hi
        intro e; subst e
        have := List.mem_of_getElem? hj
        simp [this] at h
      | succ i => exact distinct_spec l h.2 i j x y (by omega) (by simpa using hi) (by simpa using hj)
theorem blockObs_spec {σ : List (Nat × Nat)} {n : Nat} {h : Heap} : ∀ (s : List (Nat × Nat)) (es : List Ent) (r : List Ob), blockObs σ n h s es = some r →
    (∀ i, i < es.length → es[i]? ≠ some .free) ∧ ∀ (i : Nat) (b : Blk) (x o : Nat), es[i]? = some (.live b) → s[i]? = some (x, o) → Ob.ent (h.get x) (.live (renBlk σ n 0 b)) ∈ r
  | [], [], r, hr => by simp [blockObs] at hr; subst hr; exact ⟨fun i hi => by simp at hi, fun i b x o hi => by simp at hi⟩
  | (x0, o0) :: s, e :: es, r, hr => by
    cases e with
    | free => simp [blockObs] at hr
    | dead =>
      simp only [blockObs] at hr
      obtain ⟨h1, h2⟩ := blockObs_spec s es r hr
      refine ⟨fun i hi => ?_, fun i b x o hi hs => ?_⟩
      · cases i with
        | zero => simp
        | succ i => simpa using h1 i (by simpa using hi)
      · cases i with
        | zero => simp at hi
        | succ i => exact h2 i b x o (by simpa using hi) (by simpa using hs)
    | live b0 =>
      simp only [blockObs, Option.map_eq_some_iff] at hr
      obtain ⟨l, hl, rfl⟩ := hr
      obtain ⟨h1, h2⟩ := blockObs_spec s es l hl
      refine ⟨fun i hi => ?_, fun i b x o hi hs => ?_⟩
      · cases i with
        | zero => simp
        | succ i => simpa using h1 i (by simpa using hi)
      · cases i with
        | zero =>
          simp at hi hs
          obtain ⟨rfl, rfl⟩ := hs
          subst hi
          exact List.mem_cons_self ..
        | succ i => exact List.mem_cons_of_mem _ (h2 i b x o (by simpa using hi) (by simpa using hs))
  | [], _ :: _, r, hr => by simp [blockObs] at hr
  | _ :: _, [], r, hr => by simp [blockObs] at hr

theorem weak_ok {n0 : Nat} {σ : List Nat} {t t2 : List AV} {h h2 : Heap} {l : List Ob} (hw : weakObs n0 σ t t2 h h2 = some l) (hob : ∀ p ∈ l, p.holds) {Γ : Ctx} (hn : Γ.n0 = n0) {ρ : Ren} {w : World} {cs : List Value} (hI : Inv Γ ρ h w) (hV : VRs ρ t cs) :
    n0 ≤ h2.length ∧ ∃ ρ2, Inv Γ ρ2 h2 w ∧ VRs ρ2 t2 cs := by
  unfold weakObs at hw
  simp only at hw
  split at hw
  case isFalse => cases hw
  rename_i hcond
  obtain ⟨hlen, hn0, hsame, hdis, hok⟩ := hcond
  simp only [Bool.and_eq_true] at hok
  simp only [Option.map_eq_some_iff] at hw
  obtain ⟨l0, hl0, rfl⟩ := hw
  simp only [List.mem_cons, forall_eq_or_imp] at hob
  obtain ⟨hslots, hblocks⟩ := hob
  obtain ⟨hnf, hbl⟩ := blockObs_spec _ _ _ hl0
  refine ⟨hn0, ?_⟩
  let σ' := σ.map fun x => (x, 0)
  let ρ2 : Ren := ⟨fun i => match σ[i]? with
    | some x => ρ x
    | none => none, ρ.base⟩
  have tied : Tied σ' h2.length 0 h2.length ρ ρ2 := by
    refine ⟨by simp [σ', hlen], rfl, fun b x off hb => ?_, fun b h1 h2 => by omega⟩
    simp only [σ', List.getElem?_map, Option.map_eq_some_iff] at hb
    obtain ⟨y, hy, he⟩ := hb
    injection he with e1 e2; subst e1; subst e2
    simp only [ρ2, hy]
    cases ρ y with
    | none => rfl
    | some d => simp
  have get_of : ∀ i blk, h2.get i = .live blk → h2[i]? = some (.live blk) ∧ i < h2.length := fun i blk hi => by
    rcases Nat.lt_or_ge i h2.length with h' | h'
    · rw [Heap.get, List.getD_eq_getElem?_getD, List.getElem?_eq_getElem h'] at hi
      exact ⟨by rw [List.getElem?_eq_getElem h']; simpa using hi, h'⟩
    · simp [Heap.get, List.getD_eq_getElem?_getD, List.getElem?_eq_none h'] at hi
  have live_of : ∀ i blk, h2.get i = .live blk → ∃ x, σ[i]? = some x ∧ h.get x = .live (renBlk σ' h2.length 0 blk) ∧ ρ2 i = ρ x := by
    intro i blk hi
    obtain ⟨h1, h3⟩ := get_of i blk hi
    have h4 : i < σ.length := by omega
    refine ⟨σ[i], List.getElem?_eq_getElem h4, hblocks _ (hbl i blk σ[i] 0 h1 (by simp [h4])), ?_⟩
    simp only [ρ2, List.getElem?_eq_getElem h4]
  have sold : ∀ blk d, blk.solid d → (renBlk σ' h2.length 0 blk).solid d := fun blk d hs => by
    rcases hs with hs | hs
    · exact .inl (by simpa [renBlk, renCells_len] using hs)
    · exact .inr hs
  refine ⟨ρ2, ⟨⟨?_, ?_, ?_, ?_, ?_, ?_, hI.sim.baseLe, hI.sim.old, ?_⟩, ?_, hI.sameBase, hI.os, hI.tape, hI.output, hI.size, hI.keep, ?_⟩, ?_⟩
  · intro i blk hi
    obtain ⟨x, h1, h3, h4⟩ := live_of i blk hi
    rw [h4]; exact hI.sim.some_ x _ h3
  · intro i blk d hi hd
    obtain ⟨x, h1, h3, h4⟩ := live_of i blk hi
    rw [h4] at hd
    exact (CellsAt.ren tied w _ _ _ (okEnts_get hok.2 (get_of i blk hi).1)).1 (hI.sim.cells x _ d h3 hd)
  · intro i blk d hi hd hs
    obtain ⟨x, h1, h3, h4⟩ := live_of i blk hi
    rw [h4] at hd
    exact hI.sim.inside x _ d h3 hd (sold _ _ hs)
  · intro i blk d hi hd hr hs
    obtain ⟨x, h1, h3, h4⟩ := live_of i blk hi
    rw [h4] at hd
    obtain ⟨b1, cs', el, b2, b3, b4⟩ := hI.sim.own x _ d h3 hd hr (sold _ _ hs)
    exact ⟨b1, cs', el, b2, by simpa [renBlk, renCells_len] using b3, b4⟩
  · intro i j blk blk' d d' hi hj hij hd hd' hr hs hs'
    obtain ⟨x, h1, h3, h4⟩ := live_of i blk hi
    obtain ⟨y, k1, k3, k4⟩ := live_of j blk' hj
    rw [h4] at hd; rw [k4] at hd'
    have hne : x ≠ y := by
      rcases Nat.lt_or_gt_of_ne hij with hlt | hgt
      · exact distinct_spec σ hdis i j x y hlt h1 k1
      · exact fun e => distinct_spec σ hdis j i y x hgt k1 h1 e.symm
    exact hI.sim.apart x y _ _ d d' h3 k3 hne hd hd' hr (sold _ _ hs) (sold _ _ hs')
  · intro i hi
    by_cases hl : i < h2.length
    · exfalso
      rw [Heap.get, List.getD_eq_getElem?_getD, List.getElem?_eq_getElem hl] at hi
      exact hnf i hl (by rw [List.getElem?_eq_getElem hl]; simpa using hi)
    · simp only [ρ2, List.getElem?_eq_none (show σ.length ≤ i by omega)]
  · intro i blk d hi hd hr hs
    obtain ⟨x, h1, h3, h4⟩ := live_of i blk hi
    rw [h4] at hd
    exact hI.sim.above x _ d h3 hd hr (sold _ _ hs)
  · intro b hb
    have := startsSame_spec n0 0 σ hsame b (by omega)
    simp only [ρ2, this, Nat.zero_add]
    exact hI.agree b hb
  · intro i blk d hi hd hr hs
    obtain ⟨x, h1, h3, h4⟩ := live_of i blk hi
    rw [h4] at hd
    exact hI.fresh x _ d h3 hd hr (sold _ _ hs)
  · refine (VRs.ren tied _ _ hok.1).1 ?_
    rw [← show adapts (renL σ' h2.length 0 t2) t = renL σ' h2.length 0 t2 from hslots]
    exact VRs.adapt _ _ hV

/-! ### code -/
def PostIs (Γ : Ctx) (e : Exit) (t : List AV) (h : Heap) : Exit → Act → World → Prop :=
  fun e2 a2 w2 => e2 = e ∧ ∃ ρ2, Inv Γ ρ2 h w2 ∧ VRs ρ2 t a2.tmps.toList ∧ a2.defers = []

/-- From this state the code ends in that one. -/
def Runs (P : Program) (n0 : Nat) (c : Code) (t : List AV) (h : Heap) (e : Exit) (t' : List AV) (h' : Heap) : Prop :=
  n0 ≤ h'.length ∧ ∀ Γ, Γ.n0 = n0 → ∀ ρ w (a : Act), Inv Γ ρ h w → VRs ρ t a.tmps.toList → a.defers = [] → c.wp P (PostIs Γ e t' h') a w
/-- The same of a loop's rounds, n of them at the most. -/
def Rounds (P : Program) (n0 n : Nat) (c : Code) (t : List AV) (h : Heap) (e : Exit) (t' : List AV) (h' : Heap) : Prop :=
  n0 ≤ h'.length ∧ ∀ Γ, Γ.n0 = n0 → ∀ ρ w (a : Act), Inv Γ ρ h w → VRs ρ t a.tmps.toList → a.defers = [] → Code.rounds P c (PostIs Γ e t' h') n a w

theorem Runs.of_rounds {P : Program} {n0 n : Nat} {c : Code} {t : List AV} {h : Heap} {e : Exit} {t' : List AV} {h' : Heap} (hr : Rounds P n0 n c t h e t' h') : Runs P n0 (.loop c) t h e t' h' :=
  ⟨hr.1, fun Γ hΓ ρ w a hI hV hd => wp_loop_rounds n (hr.2 Γ hΓ ρ w a hI hV hd)⟩

theorem Runs.weak {P : Program} {n0 : Nat} {c : Code} {t : List AV} {h : Heap} {e : Exit} {t1 t' : List AV} {h1 h' : Heap} (hr : Runs P n0 c t h e t1 h1) {σ : List Nat} {l : List Ob} (hw : weakObs n0 σ t1 t' h1 h' = some l) (hob : ∀ p ∈ l, p.holds) (hn : n0 ≤ h'.length) : Runs P n0 c t h e t' h' := by
  refine ⟨hn, fun Γ hΓ ρ w a hI hV hd => wp_mono (hr.2 Γ hΓ ρ w a hI hV hd) fun e2 a2 w2 hp => ?_⟩
  obtain ⟨h1, ρ2, h2, h3, h4⟩ := hp
  obtain ⟨_, ρ3, h5, h6⟩ := weak_ok hw hob hΓ h2 h3
  exact ⟨h1, ρ3, h5, h6, h4⟩

/-- A round that goes on; its end is the next round's beginning, by a weakening. -/
theorem Rounds.step {P : Program} {n0 n : Nat} {c : Code} {t : List AV} {h : Heap} {e : Exit} {t1 t2 t' : List AV} {h1 h2 h' : Heap} (hr : Runs P n0 c t h .normal t1 h1) {σ : List Nat} {l : List Ob} (hw : weakObs n0 σ t1 t2 h1 h2 = some l) (hob : ∀ p ∈ l, p.holds) (hrest : Rounds P n0 n c t2 h2 e t' h') : Rounds P n0 (n + 1) c t h e t' h' := by
  refine ⟨hrest.1, fun Γ hΓ ρ w a hI hV hd => ?_⟩
  refine wp_mono (hr.2 Γ hΓ ρ w a hI hV hd) fun e2 a2 w2 hp => ?_
  obtain ⟨rfl, ρ2, g2, g3, g4⟩ := hp
  obtain ⟨_, ρ3, g5, g6⟩ := weak_ok hw hob hΓ g2 g3
  exact hrest.2 Γ hΓ ρ3 w2 a2 g5 g6 g4
/-- A round that leaves the loop. -/
theorem Rounds.leave {P : Program} {n0 n : Nat} {c : Code} {t : List AV} {h : Heap} {e : Exit} {t' : List AV} {h' : Heap} (hr : Runs P n0 c t h e t' h') (he : e ≠ .normal) : Rounds P n0 (n + 1) c t h e t' h' := by
  refine ⟨hr.1, fun Γ hΓ ρ w a hI hV hd => ?_⟩
  refine wp_mono (hr.2 Γ hΓ ρ w a hI hV hd) fun e2 a2 w2 hp => ?_
  obtain ⟨rfl, hp⟩ := hp
  cases e2 with
  | normal => exact absurd rfl he
  | _ => exact ⟨rfl, hp⟩


theorem Rounds.of_runs {P : Program} {n0 n : Nat} {c : Code} {t : List AV} {h : Heap} {e : Exit} {t1 t' : List AV} {h1 h' : Heap} (hr : Runs P n0 c t h .normal t1 h1) (hrest : Rounds P n0 n c t1 h1 e t' h') : Rounds P n0 (n + 1) c t h e t' h' := by
  refine ⟨hrest.1, fun Γ hΓ ρ w a hI hV hd => ?_⟩
  refine wp_mono (hr.2 Γ hΓ ρ w a hI hV hd) fun e2 a2 w2 hp => ?_
  obtain ⟨rfl, ρ2, g2, g3, g4⟩ := hp
  exact hrest.2 Γ hΓ ρ2 w2 a2 g2 g3 g4

/-! ### regions -/
/-- Whether an operation is wanted; which way it went is kept in the slots. -/
def wantedK {β : Type} (ops : Array Oper) (o : Oper) (t : List AV) (K : Bool → List AV → Option β) : Option β :=
  match o.guard with
  | none => K true t
  | some (j, want) => match (ops[j]?).bind (·.dst) with
    | none => K false t
    | some d => match t.getD d (.val undef) with
      | .val (.bool b) => bif b then K (true == want) (t.set d (.val (.bool true))) else K (false == want) (t.set d (.val (.bool false)))
      | .val (.tuple _) => K false t
      | _ => none
theorem set_self {t : List AV} {d : Nat} {v : AV} (h : t.getD d (.val undef) = v) : t.set d v = t := by
  apply List.ext_getElem?
  intro i
  rw [List.getElem?_set]
  split
  · rename_i hi
    subst hi
    split
    · rename_i hlt
      rw [List.getElem?_eq_getElem hlt]
      rw [List.getD_eq_getElem?_getD, List.getElem?_eq_getElem hlt] at h
      simp at h; rw [h]
    · rename_i hlt
      rw [List.getElem?_eq_none (by omega)]
  · rfl
theorem wantedK_some {β : Type} {ops : Array Oper} {o : Oper} {t : List AV} {K : Bool → List AV → Option β} {r : β} (h : wantedK ops o t K = some r) : ∃ b, wantedA ops o t = some b ∧ K b t = some r := by
  unfold wantedK at h
  unfold wantedA
  split at h
  · rename_i hg; simp only [hg]; exact ⟨true, rfl, h⟩
  · rename_i j want hg
    simp only [hg]
    split at h
    · rename_i hd; simp only [hd]; exact ⟨false, rfl, h⟩
    · rename_i d hd
      simp only [hd]
      split at h
      · rename_i b hb
        simp only [hb]
        refine ⟨_, rfl, ?_⟩
        cases b with
        | true =>
          simp only [cond_true] at h
          rw [set_self hb] at h; exact h
        | false =>
          simp only [cond_false] at h
          rw [set_self hb] at h; exact h
      · rename_i x hb; simp only [hb]; exact ⟨false, rfl, h⟩
      · cases h

def stepK {β : Type} (P : Program) (env : Env P) (ops : Array Oper) (o : Oper) (t : List AV) (h : Heap) (K : List AV → Did → Option β) : Option β :=
  wantedK ops o t fun wt t => match wt with
    | false => K t ⟨guardSlot ops o, [], o.dst, .val undef, [], h.length, 0⟩
    | true => opK P env o (evalE t) h.get h.length fun e => K t ⟨guardSlot ops o ++ tmpsOf o.op.operands.toList, e.rb, o.dst, e.val, e.wb, h.length, e.nw⟩

theorem stepK_ok {β : Type} {P : Program} {env : Env P} {ops : Array Oper} {i : Nat} {o : Oper} (hi : ops[i]? = some o) {t : List AV} {h : Heap} {K : List AV → Did → Option β} {r : β} (hs : stepK P env ops o t h K = some r) : ∃ d, K t d = some r ∧ Good P ops i t h d := by
  unfold stepK at hs
  obtain ⟨b, hw, hs⟩ := wantedK_some hs
  have hwant : ∀ t', (∀ s ∈ guardSlot ops o, t'.getD s (.val undef) = t.getD s (.val undef)) → wantedA ops o t' = some b := by
    intro t' hg
    unfold wantedA at hw ⊢
    unfold guardSlot at hg
    cases hgd : o.guard with
    | none => simpa [hgd] using hw
    | some jw =>
      obtain ⟨j, want⟩ := jw
      simp only [hgd] at hw hg ⊢
      cases hdd : (ops[j]?).bind (·.dst) with
      | none => simpa [hdd] using hw
      | some d =>
        simp only [hdd] at hw hg ⊢
        rw [hg d (by simp)]; exact hw
  cases b with
  | false =>
    refine ⟨_, hs, rfl, fun Γ t' h' ha hn ρ w a hI hV hd Q K hK => ?_⟩
    unfold wpOp
    simp only [hi]
    have := yielded_of hV (hwant t' fun s hs => ha.slots s hs)
    simp only [this, Bool.false_eq_true, if_false]
    refine hK ρ w _ hI (putT_VRs hV o.dst (by simp [VR])) ?_
    cases o.dst <;> simpa [Act.put] using hd
  | true =>
    obtain ⟨e, hk, hok⟩ := opK_ok hs
    refine ⟨_, hk, rfl, fun Γ t' h' ha hn ρ w a hI hV hd Q K hK => ?_⟩
    unfold wpOp
    simp only [hi]
    have := yielded_of hV (hwant t' fun s hs => ha.slots s (List.mem_append.2 (.inl hs)))
    simp only [this, if_true]
    refine .inl ?_
    refine hok Γ ρ h' w a hI (fun x hx => ?_) (fun b hb => ha.blocks b hb) hn (fun x h1 h2 => ha.free x h1 h2) K Q fun ρ' w' cv h1 h2 h3 => ?_
    · rw [← evalE_agree ha (x := x) fun s hs => by subst hs; exact List.mem_append.2 (.inr (mem_tmpsOf (by simpa using hx)))]
      exact VR_evalE hV x
    · refine hK ρ' w' _ h3 (putT_VRs (VRs.mono h1 _ _ hV) o.dst h2) ?_
      cases o.dst <;> simpa [Act.put] using hd

def opsK {β : Type} (P : Program) (env : Env P) (ops : Array Oper) : List Oper → List AV → Heap → List Did → (List Did → List AV → Heap → Option β) → Option β
  | [], t, h, acc, K => K acc.reverse t h
  | o :: rest, t, h, acc, K => stepK P env ops o t h fun t d => opsK P env ops rest (d.t t) (d.h h) (d :: acc) K
theorem opsK_ok {β : Type} {P : Program} {env : Env P} {ops : Array Oper} {K : List Did → List AV → Heap → Option β} {r : β} : ∀ (l : List Oper) (k : Nat) (t : List AV) (h : Heap) (acc : List Did), (∀ i o, l[i]? = some o → ops[k + i]? = some o) → opsK P env ops l t h acc K = some r →
    ∃ dids, dids.length = l.length ∧ GoodAll P ops k t h dids ∧ K (acc.reverse ++ dids) (endT t dids) (endH h dids) = some r
  | [], k, t, h, acc, _, hs => ⟨[], rfl, trivial, by simpa [opsK, endT, endH] using hs⟩
  | o :: rest, k, t, h, acc, hl, hs => by
    simp only [opsK] at hs
    obtain ⟨d, hk, hg⟩ := stepK_ok (i := k) (by simpa using hl 0 o rfl) hs
    obtain ⟨dids, h1, h2, h3⟩ := opsK_ok rest (k + 1) _ _ _ (fun i o' hi => by have := hl (i + 1) o' (by simpa using hi); rw [show k + 1 + i = k + (i + 1) by omega]; exact this) hk
    exact ⟨d :: dids, by simp [h1], ⟨hg, h2⟩, by simpa [endT, endH] using h3⟩

def regK {β : Type} (P : Program) (env : Env P) (ops : Array Oper) (draw : Bool) (t : List AV) (h : Heap) (K : List AV → Heap → Option β) : Option β :=
  opsK P env ops ops.toList t h [] fun dids t' h' => match draw with
    | false => K t' h'
    | true => match masks ops.toList [] with
      | none => none
      | some ms => ifK (confs dids ms) (K t' h')

/-! ### code -/
def PostAt (n0 : Nat) (P : Program) (c : Code) (t : List AV) (h : Heap) (e : Exit) (t' : List AV) (h' : Heap) : Prop := Runs P n0 c t h e t' h'

theorem regK_ok {β : Type} {P : Program} (hm : P.follows .mixedOrders = true) {env : Env P} {id : Nat} {ops : Array Oper} {draw : Bool} {t : List AV} {h : Heap} {K : List AV → Heap → Option β} {r : β} {n0 : Nat} (hn : n0 ≤ h.length) (hs : regK P env ops draw t h K = some r) :
    ∃ t' h', K t' h' = some r ∧ Runs P n0 (.region id ops draw) t h .normal t' h' := by
  unfold regK at hs
  obtain ⟨dids, h1, h2, h3⟩ := opsK_ok ops.toList 0 t h [] (fun i o hi => by simpa using hi) hs
  have hlen : dids.length = ops.size := by simpa using h1
  simp only [List.reverse_nil, List.nil_append] at h3
  have key : (draw = true → ∃ ms, masks ops.toList [] = some ms ∧ confs dids ms = true) → Runs P n0 (.region id ops draw) t h .normal (endT t dids) (endH h dids) := fun hdr =>
    ⟨Nat.le_trans hn (endH_length _ _), fun Γ hΓ ρ w a hI hV hd => region_ok hm hlen h2 hdr (by omega) hI hV hd fun ρ' w' a' g1 g2 g3 => ⟨rfl, ρ', g1, g2, g3⟩⟩
  cases draw with
  | false => exact ⟨_, _, h3, key (by simp)⟩
  | true =>
    simp only at h3
    split at h3
    · cases h3
    · rename_i ms hms
      obtain ⟨hc, hK⟩ := ifK_some h3
      exact ⟨_, _, hK, key fun _ => ⟨ms, hms, hc⟩⟩

/-- A loop, by what its rounds come to. -/
structure LSumm (P : Program) where
  b : Code
  S : {β : Type} → Nat → List AV → Heap → (Exit → List AV → Heap → Option β) → Option β
  ok : ∀ {β : Type} (n0 : Nat) (t : List AV) (h : Heap) (K : Exit → List AV → Heap → Option β) (r : β), n0 ≤ h.length → S n0 t h K = some r → ∃ e t' h', K e t' h' = some r ∧ Runs P n0 (.loop b) t h e t' h'
abbrev Loops (P : Program) := List (List Nat × LSumm P)
def Loops.find {P : Program} : Loops P → List Nat → Option (LSumm P)
  | [], _ => none
  | s :: l, p => if s.1 = p then some s.2 else Loops.find l p
def kid : Code → Nat → Option Code
  | .seq a _, 0 => some a
  | .seq _ b, 1 => some b
  | .cond _ x _, 0 => some x
  | .cond _ _ y, 1 => some y
  | .block _ b, 0 => some b
  | .loop b, 0 => some b
  | .scope b, 0 => some b
  | _, _ => none
/-- The piece of code at a place (told from the place outwards). -/
def subAt (C : Code) : List Nat → Option Code
  | [] => some C
  | i :: p => (subAt C p).bind fun c => kid c i
def Loops.fit {P : Program} (C : Code) (L : Loops P) : Prop := ∀ s ∈ L, subAt C s.1 = some (.loop s.2.b)
theorem Loops.find_ok {P : Program} {C : Code} : ∀ (L : Loops P) (p : List Nat) (s : LSumm P), L.fit C → L.find p = some s → subAt C p = some (.loop s.b)
  | [], p, s, _, h => by simp [Loops.find] at h
  | x :: l, p, s, hf, h => by
    simp only [Loops.find] at h
    split at h
    · rename_i hp; injection h with h; subst h; subst hp; exact hf x (List.mem_cons_self ..)
    · exact Loops.find_ok l p s (fun y hy => hf y (List.mem_cons_of_mem _ hy)) h

def blockExit (id : Nat) : Exit → Exit
  | .exit i => if i = id then .normal else .exit i
  | e => e

inductive Todo where
  | code (c : Code)
  | rounds (c : Code)
  | jumps (c x : Code)

def codeK {β : Type} (P : Program) (env : Env P) (n0 : Nat) : Nat → Loops P → List Nat → Todo → List AV → Heap → (Exit → List AV → Heap → Option β) → Option β
  | 0, _, _, _, _, _, _ => none
  | f + 1, L, p, .code .skip, t, h, K => K .normal t h
  | f + 1, L, p, .code (.label _), t, h, K => K .normal t h
  | f + 1, L, p, .code (.exit id), t, h, K => K (.exit id) t h
  | f + 1, L, p, .code (.goto l), t, h, K => K (.goto l) t h
  | f + 1, L, p, .code .ret, t, h, K => K .ret t h
  | f + 1, L, p, .code (.region _ ops draw), t, h, K => regK P env ops draw t h fun t' h' => K .normal t' h'
  | f + 1, L, p, .code (.seq a b), t, h, K => codeK P env n0 f L (0 :: p) (.code a) t h fun e t' h' => match e with
    | .normal => codeK P env n0 f L (1 :: p) (.code b) t' h' K
    | e => K e t' h'
  | f + 1, L, p, .code (.cond c x y), t, h, K => match evalE t c with
    | .val (.bool v) => bif v then codeK P env n0 f L (0 :: p) (.code x) t h K else codeK P env n0 f L (1 :: p) (.code y) t h K
    | _ => none
  | f + 1, L, p, .code (.block id b), t, h, K => codeK P env n0 f L (0 :: p) (.code b) t h fun e t' h' => K (blockExit id e) t' h'
  | f + 1, L, p, .code (.loop b), t, h, K => match L.find p with
    | some s => s.S n0 t h K
    | none => codeK P env n0 f L (0 :: p) (.rounds b) t h K
  | f + 1, L, p, .rounds b, t, h, K => codeK P env n0 f L p (.code b) t h fun e t' h' => match e with
    | .normal => codeK P env n0 f L p (.rounds b) t' h' K
    | e => K e t' h'
  | f + 1, L, p, .code (.scope b), t, h, K => codeK P env n0 f L (0 :: p) (.jumps b b) t h K
  | f + 1, L, p, .jumps b x, t, h, K => codeK P env n0 f L p (.code x) t h fun e t' h' => match e with
    | .goto l => (match findLabel b l with
      | some rest => codeK P env n0 f [] [] (.jumps b rest) t' h' K
      | none => K (.goto l) t' h')
    | e => K e t' h'
  | _, _, _, _, _, _, _ => none

/-- Code inside a scope, some jumps ahead. -/
def Code.hops (P : Program) (c : Code) (Q : Exit → Act → World → Prop) : Nat → Code → Act → World → Prop
  | 0, _, _, _ => False
  | n + 1, x, a, w => x.wp P (fun e a w => match e with
    | .goto l => (match findLabel c l with
      | some rest => Code.hops P c Q n rest a w
      | none => Q (.goto l) a w)
    | e => Q e a w) a w
theorem wp_scope_hops {P : Program} {Q : Exit → Act → World → Prop} {c : Code} (n : Nat) {a : Act} {w : World} (h : Code.hops P c Q n c a w) : (Code.scope c).wp P Q a w := by
  intro b k cs
  have key : ∀ n x a w, Code.hops P c Q n x a w → ∃ e a' w', Q e a' w' ∧ Arrives P (lone (b.at a (.code x :: .inScope c :: k)) cs w) b k cs e a' w' := by
    intro n
    induction n with
    | zero => intro x a w h; exact h.elim
    | succ n ih =>
      intro x a w h
      obtain ⟨e, a₁, w₁, hq, harr⟩ := h b (.inScope c :: k) cs
      cases e with
      | normal => exact ⟨.normal, a₁, w₁, hq, Steps.trans harr (.one step_inScope)⟩
      | exit id => exact ⟨.exit id, a₁, w₁, hq, fun k' hk => harr k' (by simp [exitTo, hk])⟩
      | goto l =>
        simp only at hq
        split at hq
        · rename_i rest hrest
          obtain ⟨e₂, a₂, w₂, hq₂, harr₂⟩ := ih rest a₁ w₁ hq
          exact ⟨e₂, a₂, w₂, hq₂, .of_steps (harr _ (by simp [gotoIn, hrest])) harr₂⟩
        · rename_i hrest
          exact ⟨.goto l, a₁, w₁, hq, fun k' hk => harr k' (by simp [gotoIn, hrest, hk])⟩
      | ret => exact ⟨_, a₁, w₁, hq, harr⟩
      | panic ch => exact ⟨_, a₁, w₁, hq, harr⟩
      | outgrown => exact ⟨_, a₁, w₁, hq, harr⟩
  obtain ⟨e, a₁, w₁, hq, harr⟩ := key n c a w h
  exact ⟨e, a₁, w₁, hq, .of_steps (.one step_scope) harr⟩

/-- The same by abstract states. -/
def Hops (P : Program) (n0 n : Nat) (c x : Code) (t : List AV) (h : Heap) (e : Exit) (t' : List AV) (h' : Heap) : Prop :=
  n0 ≤ h'.length ∧ ∀ Γ, Γ.n0 = n0 → ∀ ρ w (a : Act), Inv Γ ρ h w → VRs ρ t a.tmps.toList → a.defers = [] → Code.hops P c (PostIs Γ e t' h') n x a w

def Todo.good (P : Program) (n0 : Nat) : Todo → List AV → Heap → Exit → List AV → Heap → Prop
  | .code c, t, h, e, t', h' => Runs P n0 c t h e t' h'
  | .rounds c, t, h, e, t', h' => ∃ n, Rounds P n0 n c t h e t' h'
  | .jumps c x, t, h, e, t', h' => ∃ n, Hops P n0 n c x t h e t' h'
def Todo.at_ (C : Code) : Todo → List Nat → Prop
  | .code c, p => subAt C p = some c
  | .rounds c, p => subAt C p = some c
  | .jumps c x, p => subAt C p = some x

theorem codeK_ok {β : Type} {P : Program} (hm : P.follows .mixedOrders = true) {env : Env P} {n0 : Nat} {r : β} : ∀ (f : Nat) (L : Loops P) (p : List Nat) (td : Todo) (t : List AV) (h : Heap) (K : Exit → List AV → Heap → Option β) (C : Code), L.fit C → (L = [] ∨ td.at_ C p) → n0 ≤ h.length → codeK P env n0 f L p td t h K = some r →
    ∃ e t' h', K e t' h' = some r ∧ n0 ≤ h'.length ∧ td.good P n0 t h e t' h'
  | 0, L, p, td, t, h, K, C, _, _, hn, hr => by simp [codeK] at hr
  | f + 1, L, p, td, t, h, K, C, hL, hp, hn, hr => by
    have sub : ∀ i c c', (L = [] ∨ subAt C p = some c) → kid c i = some c' → (L = [] ∨ subAt C (i :: p) = some c') := by
      intro i c c' h1 h2
      rcases h1 with h1 | h1
      · exact .inl h1
      · exact .inr (by simp [subAt, h1, h2])
    cases td with
    | rounds b =>
      simp only [codeK] at hr
      obtain ⟨e, t1, h1, hk, hn1, hg⟩ := codeK_ok hm f L p (.code b) t h _ C hL hp hn hr
      cases e with
      | normal =>
        simp only at hk
        obtain ⟨e2, t2, h2, hk2, hn2, n, hg2⟩ := codeK_ok hm f L p (.rounds b) t1 h1 _ C hL hp hn1 hk
        exact ⟨e2, t2, h2, hk2, hn2, n + 1, Rounds.of_runs hg hg2⟩
      | _ => exact ⟨_, t1, h1, hk, hn1, 1, Rounds.leave hg (by simp)⟩
    | jumps b x =>
      simp only [codeK] at hr
      obtain ⟨e, t1, h1, hk, hn1, hg⟩ := codeK_ok hm f L p (.code x) t h _ C hL hp hn hr
      have leave : ∀ e', e = e' → (∀ l, e' = .goto l → findLabel b l = none) → Hops P n0 1 b x t h e t1 h1 := by
        intro e' he hl
        refine ⟨hn1, fun Γ hΓ ρ w a hI hV hd => ?_⟩
        refine wp_mono (hg.2 Γ hΓ ρ w a hI hV hd) fun e2 a2 w2 hp => ?_
        obtain ⟨h5, hp⟩ := hp
        subst h5
        cases he' : e2 with
        | goto l =>
          simp only [hl l (by rw [← he, he'])]
          exact ⟨rfl, hp⟩
        | _ => exact ⟨rfl, hp⟩
      cases e with
      | goto l =>
        simp only at hk
        split at hk
        · rename_i rest hrest
          obtain ⟨e2, t2, h2, hk2, hn2, n, hg2⟩ := codeK_ok hm f [] [] (.jumps b rest) t1 h1 _ C (by intro s hs; simp at hs) (.inl rfl) hn1 hk
          refine ⟨e2, t2, h2, hk2, hn2, n + 1, hn2, fun Γ hΓ ρ w a hI hV hd => ?_⟩
          refine wp_mono (hg.2 Γ hΓ ρ w a hI hV hd) fun e3 a3 w3 hp => ?_
          obtain ⟨rfl, ρ3, g1, g2, g3⟩ := hp
          simp only [hrest]
          exact hg2.2 Γ hΓ ρ3 w3 a3 g1 g2 g3
        · rename_i hrest
          exact ⟨_, t1, h1, hk, hn1, 1, leave _ rfl (fun l' hl => by injection hl with hl; subst hl; exact hrest)⟩
      | _ => exact ⟨_, t1, h1, hk, hn1, 1, leave _ rfl (by simp)⟩
    | code c =>
    cases c with
    | skip => simp only [codeK] at hr; exact ⟨_, t, h, hr, hn, hn, fun Γ hΓ ρ w a hI hV hd => wp_skip ⟨rfl, ρ, hI, hV, hd⟩⟩
    | label l => simp only [codeK] at hr; exact ⟨_, t, h, hr, hn, hn, fun Γ hΓ ρ w a hI hV hd => wp_label ⟨rfl, ρ, hI, hV, hd⟩⟩
    | exit id => simp only [codeK] at hr; exact ⟨_, t, h, hr, hn, hn, fun Γ hΓ ρ w a hI hV hd => wp_exit ⟨rfl, ρ, hI, hV, hd⟩⟩
    | goto l => simp only [codeK] at hr; exact ⟨_, t, h, hr, hn, hn, fun Γ hΓ ρ w a hI hV hd => wp_goto ⟨rfl, ρ, hI, hV, hd⟩⟩
    | ret => simp only [codeK] at hr; exact ⟨_, t, h, hr, hn, hn, fun Γ hΓ ρ w a hI hV hd => wp_ret ⟨rfl, ρ, hI, hV, hd⟩⟩
    | region id ops draw =>
      simp only [codeK] at hr
      obtain ⟨t1, h1, hk, hg⟩ := regK_ok (id := id) hm hn hr
      exact ⟨_, t1, h1, hk, hg.1, hg⟩
    | seq a b =>
      simp only [codeK] at hr
      obtain ⟨e, t1, h1, hk, hn1, hg⟩ := codeK_ok hm f L (0 :: p) (.code a) t h _ C hL (sub 0 _ _ hp rfl) hn hr
      have leave : e ≠ .normal → Runs P n0 (.seq a b) t h e t1 h1 := fun he =>
        ⟨hn1, fun Γ hΓ ρ w act hI hV hd => wp_seq (wp_mono (hg.2 Γ hΓ ρ w act hI hV hd) fun e2 a2 w2 hp => by
          obtain ⟨rfl, hp⟩ := hp
          cases e2 with
          | normal => exact absurd rfl he
          | _ => exact ⟨rfl, hp⟩)⟩
      cases e with
      | normal =>
        simp only at hk
        obtain ⟨e2, t2, h2, hk2, hn2, hg2⟩ := codeK_ok hm f L (1 :: p) (.code b) t1 h1 _ C hL (sub 1 _ _ hp rfl) hn1 hk
        refine ⟨e2, t2, h2, hk2, hn2, hn2, fun Γ hΓ ρ w act hI hV hd => wp_seq (wp_mono (hg.2 Γ hΓ ρ w act hI hV hd) fun e3 a3 w3 hp => ?_)⟩
        obtain ⟨rfl, ρ3, g1, g2, g3⟩ := hp
        exact hg2.2 Γ hΓ ρ3 w3 a3 g1 g2 g3
      | _ => exact ⟨_, t1, h1, hk, hn1, leave (by simp)⟩
    | cond c x y =>
      simp only [codeK] at hr
      split at hr
      case h_2 => cases hr
      rename_i v hc
      cases v with
      | true =>
        obtain ⟨e, t1, h1, hk, hn1, hg⟩ := codeK_ok hm f L (0 :: p) (.code x) t h _ C hL (sub 0 _ _ hp rfl) hn hr
        refine ⟨e, t1, h1, hk, hn1, hn1, fun Γ hΓ ρ w act hI hV hd => wp_cond_true ?_ (hg.2 Γ hΓ ρ w act hI hV hd)⟩
        have := VR_evalE hV c
        rw [hc] at this; simpa [VR] using this
      | false =>
        obtain ⟨e, t1, h1, hk, hn1, hg⟩ := codeK_ok hm f L (1 :: p) (.code y) t h _ C hL (sub 1 _ _ hp rfl) hn hr
        refine ⟨e, t1, h1, hk, hn1, hn1, fun Γ hΓ ρ w act hI hV hd => wp_cond_false ?_ (hg.2 Γ hΓ ρ w act hI hV hd)⟩
        have := VR_evalE hV c
        rw [hc] at this; simpa [VR] using this
    | block id b =>
      simp only [codeK] at hr
      obtain ⟨e, t1, h1, hk, hn1, hg⟩ := codeK_ok hm f L (0 :: p) (.code b) t h _ C hL (sub 0 _ _ hp rfl) hn hr
      refine ⟨_, t1, h1, hk, hn1, hn1, fun Γ hΓ ρ w act hI hV hd => wp_block (wp_mono (hg.2 Γ hΓ ρ w act hI hV hd) fun e2 a2 w2 hp => ?_)⟩
      obtain ⟨rfl, hp⟩ := hp
      cases e2 with
      | exit i =>
        simp only [Exit.inBlock, blockExit]
        split
        · exact ⟨rfl, hp⟩
        · exact ⟨rfl, hp⟩
      | _ => exact ⟨rfl, hp⟩
    | loop b =>
      simp only [codeK] at hr
      split at hr
      · rename_i s hs
        have hb : subAt C p = some (.loop b) := by
          rcases hp with hp | hp
          · subst hp; simp [Loops.find] at hs
          · exact hp
        have hb2 := Loops.find_ok L p s hL hs
        rw [hb] at hb2
        injection hb2 with hb2; injection hb2 with hb2; subst hb2
        obtain ⟨e, t1, h1, hk, hg⟩ := s.ok n0 t h K r hn hr
        exact ⟨e, t1, h1, hk, hg.1, hg⟩
      · obtain ⟨e, t1, h1, hk, hn1, n, hg⟩ := codeK_ok hm f L (0 :: p) (.rounds b) t h _ C hL (sub 0 _ _ hp rfl) hn hr
        exact ⟨e, t1, h1, hk, hn1, Runs.of_rounds hg⟩
    | scope b =>
      simp only [codeK] at hr
      obtain ⟨e, t1, h1, hk, hn1, n, hg⟩ := codeK_ok hm f L (0 :: p) (.jumps b b) t h _ C hL (sub 0 _ _ hp rfl) hn hr
      exact ⟨e, t1, h1, hk, hn1, hn1, fun Γ hΓ ρ w act hI hV hd => wp_scope_hops n (hg.2 Γ hΓ ρ w act hI hV hd)⟩
    | _ => simp [codeK] at hr

/-! ### a function -/
def resA (P : Program) (t : List AV) (h : Heap) : List ResultVar → Option (List AV)
  | [] => some []
  | .tmp s :: l => (resA P t h l).map ((t.getD s (.val undef)) :: ·)
  | .cell a ty :: l => match t.getD a (.val undef) with
    | .ptr b o => match h.get b with
      | .live blk => match blk.cells with
        | .lit cs => (partA P ty cs o).bind fun v => (resA P t h l).map (v :: ·)
        | _ => none
      | _ => none
    | _ => none
def resV : List AV → AV
  | [v] => v
  | l => .tup l

theorem run_results {P : Program} {Γ : Ctx} {ρ : Ren} {h : Heap} {w : World} (hI : Inv Γ ρ h w) {t : List AV} {a : Act} (hV : VRs ρ t a.tmps.toList) : ∀ (l : List ResultVar) (vs : List AV), resA P t h l = some vs →
    ∃ us, (l.mapM fun r : ResultVar => (match r with
      | .tmp t => pure (a.tmps.getD t undef)
      | .cell x t => do loadVar t (← asAddr (a.tmps.getD x undef)) : Sem Value)).run P w = .ok us w ∧ VRs ρ vs us
  | [], vs, hr => by simp [resA] at hr; subst hr; exact ⟨[], rfl, by simp [VRs]⟩
  | .tmp s :: l, vs, hr => by
    simp only [resA, Option.map_eq_some_iff] at hr
    obtain ⟨vs', h1, rfl⟩ := hr
    obtain ⟨us, h2, h3⟩ := run_results hI hV l vs' h1
    refine ⟨a.tmps.getD s undef :: us, ?_, ?_⟩
    · simp only [List.mapM_cons, Sem.run_bind, Sem.run_pure, Result.andThen, h2]
    · simp only [VRs]; exact ⟨by simpa [evalE, Act.eval] using VR_evalE hV (.tmp s), h3⟩
  | .cell x ty :: l, vs, hr => by
    simp only [resA] at hr
    split at hr
    case h_2 => cases hr
    rename_i b o hx
    split at hr
    case h_2 => cases hr
    rename_i blk hblk
    split at hr
    case h_2 => cases hr
    rename_i cs hcs
    simp only [Option.bind_eq_some_iff, Option.map_eq_some_iff] at hr
    obtain ⟨v, hv, vs', h1, rfl⟩ := hr
    obtain ⟨us, h2, h3⟩ := run_results hI hV l vs' h1
    have hp := VR_evalE hV (.tmp x)
    simp only [evalE, Act.eval] at hp
    rw [hx] at hp
    simp only [VR] at hp
    obtain ⟨cb, co, cc, hρ, hp⟩ := hp
    have hca := hI.sim.cells b blk _ hblk hρ
    rw [hcs] at hca
    obtain ⟨u, h4, h5⟩ := loadVar_lit (P := P) hv hca
    refine ⟨u :: us, ?_, by simp only [VRs]; exact ⟨h5, h3⟩⟩
    have h6 : (asAddr (a.tmps.getD x undef)).run P w = .ok ⟨cb, co + o, none⟩ w := by rw [hp]; rfl
    simp only at h4
    simp only [List.mapM_cons, Sem.run_bind, h6, Sem.run_pure, Result.andThen, h4, h2]

theorem Does.of_runs {P : Program} {f : FuncId} {fn : Func} {c : Code} {args : List AV} {h : Heap} (hf : P.funcs[f]? = some fn) (hb : fn.body = some c) (hname : (fn.name == "runtime.NumGoroutine") = false)
    {e : Exit} {t1 : List AV} {h1 : Heap} (hr : Runs P h.length c (args ++ List.replicate (fn.ntmps - args.length) (.val undef)) h e t1 h1) (he : e = .ret ∨ e = .normal)
    {vs : List AV} (hres : resA P t1 h1 fn.results.toList = some vs) {v : AV} {h' : Heap} {σ : List Nat} {l : List Ob} (hw : weakObs h.length σ [resV vs] [v] h1 h' = some l) (hob : ∀ p ∈ l, p.holds) : Does P f args h v h' := by
  intro ρ w cargs hsim hargs
  unfold Invokes
  have hcall : (callFunc f cargs).run P w = .ok (.enter f cargs) w := by
    simp only [callFunc, program, Sem.run_bind, Sem.run, Result.andThen, hf]
    simp only [hname, hb, Option.isNone_some, Bool.false_eq_true, if_false]
    rfl
  rw [hcall]
  simp only
  have hlen := hargs.length
  refine calls_of_wp hf hb ?_
  let Γ : Ctx := ⟨h.length, ρ, h, w⟩
  have hI : Inv Γ ρ h w := by
    refine ⟨hsim, fun _ _ => rfl, rfl, rfl, rfl, rfl, Nat.le_refl _, fun _ _ _ => rfl, fun b blk d hb hd hrw hs => ?_⟩
    refine .inr ⟨b, blk, d, ?_, hb, hrw, hd, hs, rfl⟩
    rcases Nat.lt_or_ge b h.length with h' | h'
    · exact h'
    · simp [Heap.get, List.getD_eq_getElem?_getD, List.getElem?_eq_none h'] at hb
  have hV : VRs ρ (args ++ List.replicate (fn.ntmps - args.length) (.val undef)) ({ tmps := cargs ++ Array.replicate (fn.ntmps - cargs.size) undef, defers := [] } : Act).tmps.toList := by
    simp only [Array.toList_append, Array.toList_replicate]
    refine hargs.append ?_
    rw [hlen]
    simpa using VRs.replicate (ρ := ρ) (a := .val undef) (v := undef) (by simp [VR]) (fn.ntmps - cargs.size)
  refine wp_mono (hr.2 Γ rfl ρ w _ hI hV rfl) fun e2 a2 w2 hp => ?_
  obtain ⟨rfl, ρ2, g2, g3, g4⟩ := hp
  obtain ⟨us, k1, k2⟩ := run_results (P := P) g2 g3 fn.results.toList vs hres
  have hrun : ∃ cv, (results fn a2.tmps).run P w2 = .ok cv w2 ∧ VR ρ2 (resV vs) cv := by
    have hsz := k2.length
    have h5 : (fn.results.mapM fun r : ResultVar => (match r with
      | .tmp t => pure (a2.tmps.getD t undef)
      | .cell x t => do loadVar t (← asAddr (a2.tmps.getD x undef)) : Sem Value)).run P w2 = .ok us.toArray w2 := by
      rw [Array.mapM_eq_mapM_toList, map_eq_pure_bind, Sem.run_bind, k1]
      rfl
    by_cases h1 : us.length = 1
    · match us, h1, k2, h5 with
      | [u], _, k2, h5 =>
        match vs, hsz, k2 with
        | [v1], _, k2 =>
          simp only [VRs] at k2
          refine ⟨u, ?_, k2.1⟩
          unfold results
          rw [Sem.run_bind]
          refine Eq.trans (congrArg (fun r => Result.andThen r _) h5) ?_
          simp [Result.andThen, pure, Sem.run]
    · refine ⟨.tuple us.toArray, ?_, ?_⟩
      · unfold results
        rw [Sem.run_bind]
        refine Eq.trans (congrArg (fun r => Result.andThen r _) h5) ?_
        simp [Result.andThen, h1, pure, Sem.run]
      · have : resV vs = .tup vs := by
          unfold resV
          split
          · simp at hsz; omega
          · rfl
        rw [this]; simp only [VR]; exact ⟨us.toArray, rfl, by simpa using k2⟩
  obtain ⟨cv, h5, h6⟩ := hrun
  obtain ⟨_, ρ3, h7, h8⟩ := weak_ok hw hob (Γ := Γ) rfl g2 (cs := [cv]) (by simp only [VRs]; exact ⟨h6, trivial⟩)
  simp only [VRs] at h8
  rcases he with rfl | rfl
  · exact ⟨g4, cv, h5, ρ3, cv, rfl, h8.1, h7⟩
  · exact ⟨g4, cv, h5, ρ3, cv, rfl, h8.1, h7⟩

end Go.Ab
