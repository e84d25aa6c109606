/-
  CORE 18: a call of a function that only reads.
-/
import Derived.Test.YtiikkepnpidilaaCore17
set_option linter.unusedVariables false
set_option linter.unusedSimpArgs false
namespace Go.Ab

/-! ### arguments, seen -/
def argCells : Sh → AV → Option (List AV)
  | .st _, .agg cs => some cs
  | .st _, .val (.agg cs) => some (cs.toList.map .val)
  | .st _, _ => none
  | _, a => some [a]
def viewA (H : Nat → Ent) (s : Sh) (a : AV) : Option (s.T × List Nat × Bool) :=
  match argCells s a with
  | some cs => (match viewC H s cs with
    | some (y, b, c, []) => some (y, b, c)
    | _ => none)
  | none => none
def viewArgs (H : Nat → Ent) : (l : List Sh) → List AV → Option (Sh.Ts l × List Nat × Bool)
  | [], [] => some ((), [], true)
  | s :: l, a :: as => (match viewA H s a with
    | some (y, b, c) => (match viewArgs H l as with
      | some (z, b', c') => some ((y, z), b ++ b', c && c')
      | none => none)
    | none => none)
  | _, _ => none

def ViewsA (w B : World) (F : Nat → Prop) (l : List Sh) (y : Sh.Ts l) (vs : List Value) : Prop :=
  ∃ c : List (Nat × Nat × Nat), c.length = Sh.nes l ∧ ∀ (ρ : Ren) (next : Nat), ρ.base = B → (∀ (i : Nat) (d : Nat × Nat × Nat), c[i]? = some d → ρ (next + i) = some d) →
    VRs ρ (Sh.args l y next) vs ∧ ∀ (i : Nat) (blk : Blk), (Sh.entss l y)[i]? = some (.live blk) → ∃ d : Nat × Nat × Nat, c[i]? = some d ∧ CellsAt ρ w d.1 d.2.1 blk.cells ∧ (0 < blk.cells.len → F d.1)

theorem viewA_ok {ρ0 : Ren} {h : Heap} {w : World} {H : Nat → Ent} {Q : Nat → Prop} (hs : Sim ρ0 h w) {s : Sh} {a : AV} {v : Value} (hv : VR ρ0 a v) {y : s.T} {bs : List Nat} {c : Bool} (hvw : viewA H s a = some (y, bs, c)) (hH : ∀ b ∈ bs, h.get b = H b) (hQ : ∀ b ∈ bs, Q b) (hc : c = true) :
    ∃ cs, Views w ρ0.base (From ρ0 h Q) s y cs ∧ ∀ (ρ : Ren) next, VRs ρ (s.cells y next) cs → VR ρ (s.arg y next) v := by
  unfold viewA at hvw
  split at hvw
  case h_2 => cases hvw
  rename_i cs hcs
  split at hvw
  case h_2 => cases hvw
  rename_i y' b' c' hvc
  injection hvw with hvw; injection hvw with e1 e2; injection e2 with e2 e3
  subst e1; subst e2; subst e3
  have one : argCells s a = some [a] → (∀ next, s.cells y' next = [s.arg y' next]) → ∃ cs, Views w ρ0.base (From ρ0 h Q) s y' cs ∧ ∀ (ρ : Ren) next, VRs ρ (s.cells y' next) cs → VR ρ (s.arg y' next) v := by
    intro h1 h2
    rw [h1] at hcs; injection hcs with hcs; subst hcs
    obtain ⟨v1, v2, g1, g2, g3⟩ := viewC_ok hs s [a] [v] (by simp only [VRs]; exact ⟨hv, trivial⟩) y' b' c' [] hvc hH hQ hc
    have : v2 = [] := by
      cases v2 with
      | nil => rfl
      | cons => simp [VRs] at g2
    subst this
    simp at g1; subst g1
    refine ⟨[v], g3, fun ρ next hr => ?_⟩
    rw [h2] at hr
    simpa [VRs] using hr
  cases s with
  | int k => exact one rfl fun _ => rfl
  | bool => exact one rfl fun _ => rfl
  | str => exact one rfl fun _ => rfl
  | sl e => exact one rfl fun _ => rfl
  | rows e => exact one rfl fun _ => rfl
  | st l =>
    have hag : ∃ us, v = .agg us ∧ VRs ρ0 cs us.toList := by
      unfold argCells at hcs
      split at hcs
      · rename_i e; injection e with e; subst e
        injection hcs with hcs; subst hcs
        simp only [VR] at hv; exact hv
      · rename_i e; injection e with e; subst e
        injection hcs with hcs; subst hcs
        simp only [VR] at hv; exact ⟨_, hv, VRs.vals _⟩
      · cases hcs
      · exfalso; simp_all
    obtain ⟨us, hu, hr⟩ := hag
    obtain ⟨v1, v2, g1, g2, g3⟩ := viewC_ok hs (.st l) cs us.toList hr y' b' c' [] hvc hH hQ hc
    have : v2 = [] := by
      cases v2 with
      | nil => rfl
      | cons => simp [VRs] at g2
    subst this
    simp at g1
    refine ⟨v1, g3, fun ρ next hr => ?_⟩
    simp only [Sh.arg, VR]
    exact ⟨us, hu, by rw [g1]; simpa [Sh.cells] using hr⟩

theorem viewArgs_ok {ρ0 : Ren} {h : Heap} {w : World} {H : Nat → Ent} {Q : Nat → Prop} (hs : Sim ρ0 h w) : ∀ (l : List Sh) (as : List AV) (vs : List Value), VRs ρ0 as vs → ∀ (y : Sh.Ts l) (bs : List Nat) (c : Bool), viewArgs H l as = some (y, bs, c) → (∀ b ∈ bs, h.get b = H b) → (∀ b ∈ bs, Q b) → c = true → ViewsA w ρ0.base (From ρ0 h Q) l y vs
  | [], [], [], _, y, bs, c, _, _, _, _ => ⟨[], rfl, fun ρ next _ _ => ⟨by simp [Sh.args, VRs], fun i blk h => by simp [Sh.entss] at h⟩⟩
  | [], [], _ :: _, hv, _, _, _, _, _, _, _ => by simp [VRs] at hv
  | [], _ :: _, _, _, _, _, _, h, _, _, _ => by simp [viewArgs] at h
  | _ :: _, [], _, _, _, _, _, h, _, _, _ => by simp [viewArgs] at h
  | _ :: _, _ :: _, [], hv, _, _, _, _, _, _, _ => by simp [VRs] at hv
  | s :: l, a :: as, v :: vs, hv, y, bs, c, hvw, hH, hQ, hc => by
    simp only [VRs] at hv
    simp only [viewArgs] at hvw
    split at hvw
    case h_2 => cases hvw
    rename_i y0 b0 c0 h0
    split at hvw
    case h_2 => cases hvw
    rename_i z b1 c1 h1
    injection hvw with hvw; injection hvw with e1 e2; injection e2 with e2 e3
    subst e1; subst e2; subst e3
    simp only [Bool.and_eq_true] at hc
    obtain ⟨cs, ⟨d1, l1, f1⟩, harg⟩ := viewA_ok hs hv.1 h0 (fun b hb => hH b (List.mem_append.2 (.inl hb))) (fun b hb => hQ b (List.mem_append.2 (.inl hb))) hc.1
    obtain ⟨d2, l2, f2⟩ := viewArgs_ok hs l as vs hv.2 z b1 c1 h1 (fun b hb => hH b (List.mem_append.2 (.inr hb))) (fun b hb => hQ b (List.mem_append.2 (.inr hb))) hc.2
    refine ⟨d1 ++ d2, by simp [Sh.nes, l1, l2], fun ρ next hb hρ => ?_⟩
    obtain ⟨a1, a2⟩ := f1 ρ next hb fun i d hi => hρ i d (by rw [List.getElem?_append_left]; exact hi; exact (List.getElem?_eq_some_iff.1 hi).1)
    obtain ⟨b1, b2⟩ := f2 ρ (next + s.ne) hb fun i d hi => by
      have := hρ (s.ne + i) d (by rw [List.getElem?_append_right (by omega), l1, Nat.add_sub_cancel_left]; exact hi)
      rw [Nat.add_assoc]; exact this
    refine ⟨by simp only [Sh.args, VRs]; exact ⟨harg ρ next a1, b1⟩, fun i blk hi => ?_⟩
    simp only [Sh.entss] at hi
    have el := ents_length s y0
    by_cases hil : i < s.ne
    · rw [List.getElem?_append_left (by omega)] at hi
      obtain ⟨d, h3, h4⟩ := a2 i blk hi
      exact ⟨d, by rw [List.getElem?_append_left (by omega)]; exact h3, h4⟩
    · rw [List.getElem?_append_right (by omega), el] at hi
      obtain ⟨d, h3, h4⟩ := b2 (i - s.ne) blk hi
      exact ⟨d, by rw [List.getElem?_append_right (by omega), l1]; exact h3, h4⟩

theorem inside_of18 {ρ : Ren} {W : World} {b o : Nat} {cs : Cells} (h : CellsAt ρ W b o cs) (hl : 0 < cs.len) : b < W.heap.size := by
  have key : ∀ off cv, W.cell? ⟨b, off, none⟩ = some cv → b < W.heap.size := fun off cv h => by
    rcases Nat.lt_or_ge b W.heap.size with h' | h'
    · exact h'
    · simp [World.cell?, Array.getElem?_eq_none h'] at h
  cases cs with
  | lit l => obtain ⟨cv, h1, _⟩ := h 0 l[0] (List.getElem?_eq_getElem hl); exact key _ cv h1
  | sym l => exact key _ _ (h 0 l[0] (List.getElem?_eq_getElem hl))
  | rows l => obtain ⟨cv, h1, _⟩ := h 0 l[0] (List.getElem?_eq_getElem hl); exact key _ cv h1
  | arr s l => exact key _ _ (h 0 (s.flatl l)[0] (List.getElem?_eq_getElem hl))
  | arrs s l => obtain ⟨cv, h1, _⟩ := h 0 l[0] (List.getElem?_eq_getElem hl); exact key _ cv h1

theorem get_entss {l : List Sh} {y : Sh.Ts l} {b : Nat} {blk : Blk} (hb : Heap.get (Sh.entss l y) b = .live blk) : (Sh.entss l y)[b]? = some (.live blk) := by
  simp only [Heap.get, List.getD_eq_getElem?_getD] at hb
  cases hq : (Sh.entss l y)[b]? with
  | none => rw [hq] at hb; cases hb
  | some e => rw [hq] at hb; simp at hb; rw [hb]
theorem entss_norw {l : List Sh} {y : Sh.Ts l} {b : Nat} {blk : Blk} (hb : Heap.get (Sh.entss l y) b = .live blk) : blk.rw = false := by
  obtain ⟨blk', h3, h4, _⟩ := entss_live l y _ (List.mem_of_getElem? (get_entss hb))
  injection h3 with h3; subst h3; exact h4

theorem sim_views {W B : World} (hB : B.heap.size ≤ W.heap.size) (hO : ∀ i, i < B.heap.size → W.heap[i]? = B.heap[i]?) {l : List Sh} {vs : List Value} {y : Sh.Ts l} {F : Nat → Prop} (h : ViewsA W B F l y vs) : ∃ ρ : Ren, ρ.base = B ∧ VRs ρ (Sh.args l y 0) vs ∧ Sim ρ (Sh.entss l y) W ∧ ∀ b blk d, Heap.get (Sh.entss l y) b = .live blk → ρ b = some d → 0 < blk.cells.len → F d.1 := by
  obtain ⟨c, hc, hf⟩ := h
  have hel := entss_length l y
  obtain ⟨h1, h2⟩ := hf ⟨fun b => c[b]?, B⟩ 0 rfl (fun i d hi => by simpa using hi)
  refine ⟨_, rfl, h1, ?_, fun b blk d hb hd hl => ?_⟩
  rotate_left
  · obtain ⟨d', h3, _, h5⟩ := h2 b blk (get_entss hb)
    have : some d' = some d := h3.symm.trans hd
    injection this with this; subst this; exact h5 hl
  have norw : ∀ b blk, Heap.get (Sh.entss l y) b = .live blk → blk.rw = true → False := fun b blk hb hr => by
    rw [entss_norw hb] at hr; cases hr
  refine ⟨fun b blk hb => ?_, fun b blk c' hb hc' => ?_, fun b blk c' hb hc' hs => ?_, fun b blk c' hb hc' hr => (norw b blk hb hr).elim, fun b b' blk blk' c' d' hb hb' hne hc' hd' hr => (norw b blk hb hr).elim, fun b hb => ?_, hB, hO, fun b blk c' hb hc' hr => (norw b blk hb hr).elim⟩
  · obtain ⟨d, h3, _⟩ := h2 b blk (get_entss hb); exact ⟨d, h3⟩
  · obtain ⟨d, h3, h4, _⟩ := h2 b blk (get_entss hb)
    have : some d = some c' := h3.symm.trans hc'
    injection this with this; subst this; exact h4
  · obtain ⟨d, h3, h4, _⟩ := h2 b blk (get_entss hb)
    have : some d = some c' := h3.symm.trans hc'
    injection this with this; subst this
    refine inside_of18 h4 ?_
    rcases hs with hs | hs
    · exact hs
    · exact (norw b blk hb hs.1).elim
  · show c[b]? = none
    have hb' : Heap.get (Sh.entss l y) b = .free := hb
    simp only [Heap.get, List.getD_eq_getElem?_getD] at hb'
    cases hq : (Sh.entss l y)[b]? with
    | none =>
      have : (Sh.entss l y).length ≤ b := by simpa using hq
      simp; omega
    | some e =>
      obtain ⟨blk, h3, _⟩ := entss_live l y e (List.mem_of_getElem? hq)
      rw [hq, h3] at hb'; simp at hb'

/-! ### new blocks behind a call -/
def wbNew : Nat → List Ent → List (Nat × Ent)
  | _, [] => []
  | k, e :: es => (k, e) :: wbNew (k + 1) es
theorem get_wbNew : ∀ (es : List Ent) (new : Nat) (h : Heap) (x : Nat), (h.upds (wbNew new es)).get x = if new ≤ x ∧ x < new + es.length then es.getD (x - new) .free else h.get x
  | [], new, h, x => by
    simp only [wbNew, Heap.upds, List.length_nil]
    rw [if_neg (by omega)]
  | e :: es, new, h, x => by
    simp only [wbNew, Heap.upds]
    rw [get_wbNew es (new + 1) _ x]
    by_cases h1 : new + 1 ≤ x ∧ x < new + 1 + es.length
    · rw [if_pos h1, if_pos (by simp; omega)]
      rw [show x - new = (x - (new + 1)) + 1 by omega]
      simp
    · rw [if_neg h1, Heap.get_upd]
      by_cases h2 : x = new
      · subst h2
        rw [if_pos rfl, if_pos (by simp)]
        simp
      · rw [if_neg h2, if_neg (by simp; omega)]

/-- An entry that a call may lay anew: parts of one shape, to be written. -/
def Ent.own : Ent → Bool
  | .live blk => blk.rw && (match blk.cells with
    | .arr _ _ => true
    | _ => false)
  | _ => false

theorem after_pure {Γ : Ctx} {ρ : Ren} {h : Heap} {w : World} (hI : Inv Γ ρ h w) {hg : Heap} (hgn : ∀ b blk, hg.get b = .live blk → blk.rw = false) {ρg ρg' : Ren} {es : List Ent} (hes : es.all Ent.own = true) {w' : World} (hJ : Inv ⟨hg.length, ρg, hg, w⟩ ρg' (hg ++ es) w')
    {new : Nat} (hn : Γ.n0 ≤ new) (hfree : ∀ x, new ≤ x → x < new + es.length → h.get x = .free) :
    ∃ ρ', ρ.le ρ' ∧ (∀ k, k < es.length → ρ' (new + k) = ρg' (hg.length + k)) ∧ Inv Γ ρ' (h.upds (wbNew new es)) w' := by
  let ρ' : Ren := ⟨fun x => if new ≤ x ∧ x < new + es.length then ρg' (hg.length + (x - new)) else ρ x, ρ.base⟩
  have ρ_old : ∀ x, ¬ (new ≤ x ∧ x < new + es.length) → ρ' x = ρ x := fun x hx => by simp only [ρ']; rw [if_neg hx]
  have ρ_new : ∀ x, (new ≤ x ∧ x < new + es.length) → ρ' x = ρg' (hg.length + (x - new)) := fun x hx => by simp only [ρ']; rw [if_pos hx]
  have notown : ∀ i, ¬ Ctx.owned ⟨hg.length, ρg, hg, w⟩ i := by
    rintro i ⟨b, blk, c, _, hb, hr, _⟩
    rw [hgn b blk hb] at hr; cases hr
  have keep : ∀ i, i < w.heap.size → w'.heap[i]? = w.heap[i]? := fun i hi => hJ.keep i hi (notown i)
  have hsz : w.heap.size ≤ w'.heap.size := hJ.size
  have hle : ρ.le ρ' := ⟨fun x d hx => by
    rw [ρ_old x fun hx' => by rw [hI.sim.dom x (hfree x hx'.1 hx'.2)] at hx; cases hx]; exact hx, rfl⟩
  -- the entries
  have ent : ∀ x blk, (h.upds (wbNew new es)).get x = .live blk → ((new ≤ x ∧ x < new + es.length) ∧ Heap.get (hg ++ es) (hg.length + (x - new)) = .live blk ∧ blk.rw = true ∧ (∃ s l, blk.cells = .arr s l)) ∨ (¬ (new ≤ x ∧ x < new + es.length) ∧ h.get x = .live blk) := by
    intro x blk hx
    rw [get_wbNew] at hx
    by_cases hw : new ≤ x ∧ x < new + es.length
    · rw [if_pos hw] at hx
      have h1 : es[x - new]? = some (.live blk) := by
        have : x - new < es.length := by omega
        rw [List.getD_eq_getElem?_getD, List.getElem?_eq_getElem this] at hx
        rw [List.getElem?_eq_getElem this]; simpa using hx
      have h2 := List.all_eq_true.1 hes _ (List.mem_of_getElem? h1)
      simp only [Ent.own, Bool.and_eq_true] at h2
      refine .inl ⟨hw, ?_, h2.1, ?_⟩
      · simp only [Heap.get, List.getD_eq_getElem?_getD]
        rw [List.getElem?_append_right (by omega), Nat.add_sub_cancel_left, h1]; rfl
      · obtain ⟨_, h3⟩ := h2
        split at h3
        · rename_i s l hc; exact ⟨s, l, hc⟩
        · cases h3
    · rw [if_neg hw] at hx; exact .inr ⟨hw, hx⟩
  have freshg : ∀ b blk c, Heap.get (hg ++ es) b = .live blk → ρg' b = some c → blk.rw = true → blk.solid c → w.heap.size ≤ c.1 := fun b blk c hb hc hr hs => by
    rcases hJ.fresh b blk c hb hc hr hs with h1 | h1
    · exact h1
    · exact absurd h1 (notown _)
  refine ⟨ρ', hle, fun k hk => by rw [ρ_new _ (by omega)]; congr 1; omega, ⟨⟨?_, ?_, ?_, ?_, ?_, ?_, ?_, ?_, ?_⟩, ?_, hI.sameBase, hJ.os.trans hI.os, hJ.tape.trans hI.tape, hJ.output.trans hI.output, Nat.le_trans hI.size hsz, ?_, ?_⟩⟩
  · intro x blk hx
    rcases ent x blk hx with ⟨h1, h2, _⟩ | ⟨h1, h2⟩
    · rw [ρ_new x h1]; exact hJ.sim.some_ _ blk h2
    · rw [ρ_old x h1]; exact hI.sim.some_ x blk h2
  · intro x blk c hx hc
    rcases ent x blk hx with ⟨h1, h2, _, s, l, h3⟩ | ⟨h1, h2⟩
    · rw [ρ_new x h1] at hc
      have := hJ.sim.cells _ blk c h2 hc
      rw [h3] at this ⊢; exact this
    · rw [ρ_old x h1] at hc
      refine ((hI.sim.cells x blk c h2 hc).of_cell fun hpos o => ?_).mono hle
      exact cell_of_heap (keep _ (hI.sim.inside x blk c h2 hc (.inl hpos))) o
  · intro x blk c hx hc hs
    rcases ent x blk hx with ⟨h1, h2, _⟩ | ⟨h1, h2⟩
    · rw [ρ_new x h1] at hc; exact hJ.sim.inside _ blk c h2 hc hs
    · rw [ρ_old x h1] at hc; have := hI.sim.inside x blk c h2 hc hs; omega
  · intro x blk c hx hc hr hs
    rcases ent x blk hx with ⟨h1, h2, _⟩ | ⟨h1, h2⟩
    · rw [ρ_new x h1] at hc; exact hJ.sim.own _ blk c h2 hc hr hs
    · rw [ρ_old x h1] at hc
      obtain ⟨k1, cs, el, k2, k3⟩ := hI.sim.own x blk c h2 hc hr hs
      exact ⟨k1, cs, el, by rw [keep _ (hI.sim.inside x blk c h2 hc hs)]; exact k2, k3⟩
  · intro x y xb yb c d hx hy hne hc hd hr hs hs'
    rcases ent x xb hx with ⟨h1, h2, _⟩ | ⟨h1, h2⟩
    · rw [ρ_new x h1] at hc
      rcases ent y yb hy with ⟨k1, k2, _⟩ | ⟨k1, k2⟩
      · rw [ρ_new y k1] at hd
        exact hJ.sim.apart _ _ xb yb c d h2 k2 (by omega) hc hd hr hs hs'
      · rw [ρ_old y k1] at hd
        have := hI.sim.inside y yb d k2 hd hs'
        have := freshg _ xb c h2 hc hr hs
        omega
    · rw [ρ_old x h1] at hc
      rcases ent y yb hy with ⟨k1, k2, k3, _⟩ | ⟨k1, k2⟩
      · rw [ρ_new y k1] at hd
        have := hI.sim.inside x xb c h2 hc hs
        have := freshg _ yb d k2 hd k3 hs'
        omega
      · rw [ρ_old y k1] at hd
        exact hI.sim.apart x y xb yb c d h2 k2 hne hc hd hr hs hs'
  · intro x hx
    rw [get_wbNew] at hx
    by_cases hw : new ≤ x ∧ x < new + es.length
    · rw [if_pos hw] at hx
      have : x - new < es.length := by omega
      rw [List.getD_eq_getElem?_getD, List.getElem?_eq_getElem this] at hx
      have h2 := List.all_eq_true.1 hes _ (List.getElem_mem this)
      simp at hx; rw [hx] at h2; cases h2
    · rw [if_neg hw] at hx
      rw [ρ_old x hw]; exact hI.sim.dom x hx
  · show ρ.base.heap.size ≤ _
    have := hI.sim.baseLe; omega
  · intro i hi
    have hi : i < ρ.base.heap.size := hi
    rw [keep i (by have := hI.sim.baseLe; omega)]; exact hI.sim.old i hi
  · intro x blk c hx hc hr hs
    show ρ.base.heap.size ≤ _
    rcases ent x blk hx with ⟨h1, h2, _⟩ | ⟨h1, h2⟩
    · rw [ρ_new x h1] at hc
      have := freshg _ blk c h2 hc hr hs
      have := hI.sim.baseLe; omega
    · rw [ρ_old x h1] at hc; exact hI.sim.above x blk c h2 hc hr hs
  · intro b hb
    rw [ρ_old b (by omega)]; exact hI.agree b hb
  · intro i hi hno
    rw [keep i (by have := hI.size; omega)]; exact hI.keep i hi hno
  · intro x blk c hx hc hr hs
    rcases ent x blk hx with ⟨h1, h2, _⟩ | ⟨h1, h2⟩
    · rw [ρ_new x h1] at hc
      have := freshg _ blk c h2 hc hr hs
      have := hI.size
      exact .inl (by omega)
    · rw [ρ_old x h1] at hc; exact hI.fresh x blk c h2 hc hr hs

theorem Invokes.mono {P : Program} {f : FuncId} {args : Array Value} {w : World} {R R' : Ending → World → Prop} (h : Invokes P f args w R) (hr : ∀ e w, R e w → R' e w) : Invokes P f args w R' := by
  unfold Invokes at *
  generalize (callFunc f args).run P w = r at h
  cases r with
  | halt x w' => exact h.elim
  | ok nx w' =>
    cases nx with
    | enter g as => exact Calls.mono h hr
    | value v => exact hr _ _ h
    | _ => exact h.elim

/-! ### results, numbered anew -/
theorem VRs.nil_any {ρ ρ' : Ren} {cs : List Value} (h : VRs ρ [] cs) : VRs ρ' [] cs := by
  cases cs with
  | nil => simp [VRs]
  | cons => simp [VRs] at h
mutual
theorem cells_shift {ρ ρ' : Ren} : ∀ (s : Sh) (y : s.T) (n new : Nat), (∀ k, k < s.ne → ρ' (new + k) = ρ (n + k)) → ∀ cs, VRs ρ (s.cells y n) cs → VRs ρ' (s.cells y new) cs
  | .int k, y, n, new, _, [], h => by simp [Sh.cells, VRs] at h
  | .int k, y, n, new, _, v :: cs, h => by
    simp only [Sh.cells, VRs, VR] at h ⊢
    exact ⟨h.1, h.2.nil_any⟩
  | .bool, y, n, new, _, [], h => by simp [Sh.cells, VRs] at h
  | .bool, y, n, new, _, v :: cs, h => by
    simp only [Sh.cells, VRs, VR] at h ⊢
    exact ⟨h.1, h.2.nil_any⟩
  | .str, y, n, new, _, [], h => by simp [Sh.cells, VRs] at h
  | .str, y, n, new, _, v :: cs, h => by
    simp only [Sh.cells, VRs, VR] at h ⊢
    exact ⟨h.1, h.2.nil_any⟩
  | .st l, y, n, new, hk, cs, h => by
    simp only [Sh.cells] at *
    exact cellss_shift l y n new hk cs h
  | .sl e, y, n, new, hk, cs, h => by
    have h0 := hk 0 (by simp [Sh.ne])
    simp only [Nat.add_zero] at h0
    cases cs with
    | nil => simp [Sh.cells, VRs] at h
    | cons v cs =>
      simp only [Sh.cells, VRs] at h ⊢
      refine ⟨?_, h.2.nil_any⟩
      have h1 := h.1
      simp only [VR] at h1 ⊢
      rw [h0]; exact h1
  | .rows e, y, n, new, hk, cs, h => by
    have h0 := hk 0 (by simp [Sh.ne])
    simp only [Nat.add_zero] at h0
    cases cs with
    | nil => simp [Sh.cells, VRs] at h
    | cons v cs =>
      simp only [Sh.cells, VRs] at h ⊢
      refine ⟨?_, h.2.nil_any⟩
      have h1 := h.1
      simp only [VR] at h1 ⊢
      rw [h0]; exact h1
theorem cellss_shift {ρ ρ' : Ren} : ∀ (l : List Sh) (y : Sh.Ts l) (n new : Nat), (∀ k, k < Sh.nes l → ρ' (new + k) = ρ (n + k)) → ∀ cs, VRs ρ (Sh.cellss l y n) cs → VRs ρ' (Sh.cellss l y new) cs
  | [], _, _, _, _, cs, h => h.nil_any
  | s :: l, y, n, new, hk, cs, h => by
    simp only [Sh.cellss] at h ⊢
    obtain ⟨v1, v2, rfl, h1, h2⟩ := VRs.split _ _ _ h
    refine (cells_shift s y.1 n new (fun k hl => hk k (by simp only [Sh.nes]; omega)) v1 h1).append (cellss_shift l y.2 (n + s.ne) (new + s.ne) (fun k hl => ?_) v2 h2)
    have := hk (s.ne + k) (by simp only [Sh.nes]; omega)
    rw [Nat.add_assoc, Nat.add_assoc]; exact this
end
theorem arg_shift {ρ ρ' : Ren} (s : Sh) (y : s.T) (n new : Nat) (hk : ∀ k, k < s.ne → ρ' (new + k) = ρ (n + k)) {v : Value} (h : VR ρ (s.arg y n) v) : VR ρ' (s.arg y new) v := by
  have one : s.cells y n = [s.arg y n] → s.cells y new = [s.arg y new] → VR ρ' (s.arg y new) v := fun e1 e2 => by
    have := cells_shift s y n new hk [v] (by rw [e1]; simp only [VRs]; exact ⟨h, trivial⟩)
    rw [e2] at this; simpa [VRs] using this
  cases s with
  | st l =>
    simp only [Sh.arg, VR] at h ⊢
    obtain ⟨cs, h1, h2⟩ := h
    exact ⟨cs, h1, cellss_shift l y n new hk _ h2⟩
  | int k => exact one rfl rfl
  | bool => exact one rfl rfl
  | str => exact one rfl rfl
  | sl e => exact one rfl rfl
  | rows e => exact one rfl rfl
theorem args_shift {ρ ρ' : Ren} : ∀ (l : List Sh) (y : Sh.Ts l) (n new : Nat), (∀ k, k < Sh.nes l → ρ' (new + k) = ρ (n + k)) → ∀ cs, VRs ρ (Sh.args l y n) cs → VRs ρ' (Sh.args l y new) cs
  | [], _, _, _, _, cs, h => h.nil_any
  | s :: l, y, n, new, hk, [], h => by simp [Sh.args, VRs] at h
  | s :: l, y, n, new, hk, v :: cs, h => by
    simp only [Sh.args, VRs] at h ⊢
    refine ⟨arg_shift s y.1 n new (fun k hl => hk k (by simp only [Sh.nes]; omega)) h.1, args_shift l y.2 (n + s.ne) (new + s.ne) (fun k hl => ?_) cs h.2⟩
    have := hk (s.ne + k) (by simp only [Sh.nes]; omega)
    rw [Nat.add_assoc, Nat.add_assoc]; exact this

/-- What a function hands out, whose results have these shapes; its blocks numbered from n on. -/
def outV (rs : List Sh) (y : Sh.Ts rs) (n : Nat) : AV := resV (Sh.args rs y n)
theorem outV_shift {ρ ρ' : Ren} (rs : List Sh) (y : Sh.Ts rs) (n new : Nat) (hk : ∀ k, k < Sh.nes rs → ρ' (new + k) = ρ (n + k)) {v : Value} (h : VR ρ (outV rs y n) v) : VR ρ' (outV rs y new) v := by
  have len : ∀ (l : List Sh) (y : Sh.Ts l) n, (Sh.args l y n).length = l.length := by
    intro l
    induction l with
    | nil => intros; rfl
    | cons s l ih => intro y n; simp [Sh.args, ih]
  unfold outV resV at *
  match rs, y, hk, h with
  | [s], y, hk, h =>
    simp only [Sh.args] at h ⊢
    exact arg_shift s y.1 n new (fun k hl => hk k (by simp only [Sh.nes]; omega)) h
  | [], y, hk, h =>
    simp only [Sh.args, VR] at h ⊢
    obtain ⟨vs, h1, h2⟩ := h
    exact ⟨vs, h1, h2.nil_any⟩
  | s :: s' :: l, y, hk, h =>
    simp only [Sh.args] at h ⊢
    simp only [VR] at h ⊢
    obtain ⟨vs, h1, h2⟩ := h
    exact ⟨vs, h1, args_shift (s :: s' :: l) y n new hk _ h2⟩
def rwEnt : Ent → Ent
  | .live b => .live { b with rw := true }
  | e => e
def newEnts (rs : List Sh) (y : Sh.Ts rs) : List Ent := (Sh.entss rs y).map rwEnt

/-- A function that only reads what it is handed: whatever the arguments, where the law tells an answer, that is what comes out. -/
def Reads (P : Program) (f : FuncId) (ss rs : List Sh) (law : Sh.Ts ss → Option (Sh.Ts rs)) : Prop :=
  ∀ x y, law x = some y → Does P f (Sh.args ss x 0) (Sh.entss ss x) (outV rs y (Sh.entss ss x).length) (Sh.entss ss x ++ newEnts rs y)

def readsS {P : Program} {β : Type} (ss rs : List Sh) (law : Sh.Ts ss → Option (Sh.Ts rs)) (H : Nat → Ent) (new : Nat) (args : List AV) (K : Eff → Option β) : Option β :=
  match viewArgs H ss args with
  | some (x, bs, c) => ifK c ((law x).bind fun y => ifK ((newEnts rs y).all Ent.own) (K { rb := bs, wb := wbNew new (newEnts rs y), nw := (newEnts rs y).length, val := outV rs y new }))
  | none => none

def Reads.summ {P : Program} {f : FuncId} {ss rs : List Sh} {law : Sh.Ts ss → Option (Sh.Ts rs)} (hr : Reads P f ss rs law) : Summ P where
  f := f
  S := fun H new args K => readsS (P := P) ss rs law H new args K
  ok := by
    intro β H new args K r hs
    unfold readsS at hs
    split at hs
    case h_2 => cases hs
    rename_i x bs c hv
    obtain ⟨hc, hs⟩ := ifK_some hs
    rw [Option.bind_eq_some_iff] at hs
    obtain ⟨y, hy, hs⟩ := hs
    obtain ⟨hown, hs⟩ := ifK_some hs
    refine ⟨_, hs, fun Γ ρ h w cargs hI hargs hH hn hfree => ?_⟩
    obtain ⟨ρg, _, h1, h2, _⟩ := sim_views hI.sim.baseLe hI.sim.old (viewArgs_ok (Q := fun _ => True) hI.sim ss args _ hargs x bs c hv hH (fun _ _ => trivial) hc)
    refine (hr x y hy ρg w cargs h2 h1).mono fun e w' ⟨ρg', cv, he, hvv, hJ⟩ => ?_
    have hnl : (newEnts rs y).length = Sh.nes rs := by simp [newEnts, entss_length]
    obtain ⟨ρ', g1, g2, g3⟩ := after_pure hI (fun b blk hb => entss_norw hb) hown hJ hn hfree
    exact ⟨ρ', cv, he, g1, outV_shift rs y _ new (fun k hk => g2 k (by omega)) hvv, g3⟩

end Go.Ab
