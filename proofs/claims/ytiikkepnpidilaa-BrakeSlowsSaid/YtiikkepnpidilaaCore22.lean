/-
  CORE 22: a call by the callee's own code: evaluated over the caller's blocks that the arguments reach.
-/
import Derived.Test.YtiikkepnpidilaaCore21
set_option linter.unusedVariables false
set_option linter.unusedSimpArgs false
namespace Go.Ab

/-- The renaming below a number. -/
def Ren.below (ρ : Ren) (n : Nat) : Ren := ⟨fun b => if b < n then ρ b else none, ρ.base⟩
theorem Ren.below_lt {ρ : Ren} {n b : Nat} (h : b < n) : ρ.below n b = ρ b := by simp [Ren.below, h]
mutual
theorem VR.below {ρ : Ren} {n : Nat} : ∀ (v : AV) (cv : Value), okA n v = true → VR ρ v cv → VR (ρ.below n) v cv
  | .any, _, _, _ => by simp [VR]
  | .val v, cv, _, h => by simpa [VR] using h
  | .ptr b o, cv, hk, h => by
    simp only [okA, decide_eq_true_eq] at hk
    simp only [VR] at *
    rw [Ren.below_lt hk]; exact h
  | .elt b o i w f, cv, hk, h => by
    simp only [okA, decide_eq_true_eq] at hk
    simp only [VR] at *
    rw [Ren.below_lt hk]; exact h
  | .slc b o n' (.exact c), cv, hk, h => by
    simp only [okA, decide_eq_true_eq] at hk
    simp only [VR] at *
    rw [Ren.below_lt hk]; exact h
  | .slc b o n' .unk, cv, hk, h => by
    simp only [okA, decide_eq_true_eq] at hk
    simp only [VR] at *
    rw [Ren.below_lt hk]; exact h
  | .slc b o n' .low, cv, hk, h => by
    simp only [okA, decide_eq_true_eq] at hk
    simp only [VR] at *
    rw [Ren.below_lt hk]; exact h
  | .fn f fs cs, cv, hk, h => by
    simp only [okA, Bool.and_eq_true] at hk
    simp only [VR] at *
    obtain ⟨fs', cs', h1, h2, h3⟩ := h
    exact ⟨fs', cs', h1, VRs.below _ _ hk.1 h2, VRs.below _ _ hk.2 h3⟩
  | .agg cs, cv, hk, h => by
    simp only [okA] at hk
    simp only [VR] at *
    obtain ⟨cs', h1, h2⟩ := h
    exact ⟨cs', h1, VRs.below _ _ hk h2⟩
  | .tup cs, cv, hk, h => by
    simp only [okA] at hk
    simp only [VR] at *
    obtain ⟨cs', h1, h2⟩ := h
    exact ⟨cs', h1, VRs.below _ _ hk h2⟩
  | .ifc t v, cv, hk, h => by
    simp only [okA] at hk
    simp only [VR] at *
    obtain ⟨v', h1, h2⟩ := h
    exact ⟨v', h1, VR.below _ _ hk h2⟩
theorem VRs.below {ρ : Ren} {n : Nat} : ∀ (vs : List AV) (cvs : List Value), okL n vs = true → VRs ρ vs cvs → VRs (ρ.below n) vs cvs
  | [], [], _, _ => by simp [VRs]
  | a :: as, v :: vs, hk, h => by
    simp only [okL, Bool.and_eq_true] at hk
    simp only [VRs] at *
    exact ⟨VR.below _ _ hk.1 h.1, VRs.below _ _ hk.2 h.2⟩
  | [], _ :: _, _, h => by simp [VRs] at h
  | _ :: _, [], _, h => by simp [VRs] at h
end
theorem CellsAt.below {ρ : Ren} {n : Nat} {w : World} {cb co : Nat} {cs : Cells} (hk : okCells n cs = true) (h : CellsAt ρ w cb co cs) : CellsAt (ρ.below n) w cb co cs := by
  cases cs with
  | lit l =>
    intro i v hi
    obtain ⟨cv, h1, h2⟩ := h i v hi
    exact ⟨cv, h1, VR.below _ _ (okL_get hk hi) h2⟩
  | sym l => exact h
  | rows l => exact h
  | arr s l => exact h
  | arrs s l => exact h

theorem Sim.below {ρ : Ren} {h : Heap} {w : World} (hs : Sim ρ h w) {hp : Heap} (hsub : ∀ b blk, hp.get b = .live blk → ∃ blk' : Blk, h.get b = .live blk' ∧ blk'.cells = blk.cells ∧ (blk.rw = true → blk' = blk)) (hf : ∀ b, b < hp.length → hp.get b = .free → h.get b = .free) (hok : okEnts hp.length hp = true) : Sim (ρ.below hp.length) hp w := by
  have lt_of : ∀ i blk, hp.get i = .live blk → i < hp.length ∧ hp[i]? = some (.live blk) := fun i blk hi => by
    rcases Nat.lt_or_ge i hp.length with h' | h'
    · refine ⟨h', ?_⟩
      rw [Heap.get, List.getD_eq_getElem?_getD, List.getElem?_eq_getElem h'] at hi
      rw [List.getElem?_eq_getElem h']; simpa using hi
    · simp [Heap.get, List.getD_eq_getElem?_getD, List.getElem?_eq_none h'] at hi
  have solid_up : ∀ (blk blk' : Blk) c, blk'.cells = blk.cells → (blk.rw = true → blk' = blk) → blk.solid c → blk'.solid c := fun blk blk' c h1 h2 h3 => by
    rcases h3 with h3 | h3
    · exact .inl (by rw [h1]; exact h3)
    · rw [h2 h3.1]; exact .inr h3
  refine ⟨fun b blk hb => ?_, fun b blk c hb hc => ?_, fun b blk c hb hc h9 => ?_, fun b blk c hb hc hr h9 => ?_, fun b b' blk blk' c c' hb hb' hne hc hc' hr h8 h9 => ?_, fun b hb => ?_, hs.baseLe, hs.old, fun b blk c hb hc hr h9 => ?_⟩
  · obtain ⟨q, k1, k2, k3⟩ := hsub b blk hb
    rw [Ren.below_lt (lt_of b blk hb).1]; exact hs.some_ b q k1
  · obtain ⟨q, k1, k2, k3⟩ := hsub b blk hb
    rw [Ren.below_lt (lt_of b blk hb).1] at hc
    have := hs.cells b q c k1 hc
    rw [k2] at this
    exact CellsAt.below (okEnts_get hok (lt_of b blk hb).2) this
  · obtain ⟨q, k1, k2, k3⟩ := hsub b blk hb
    rw [Ren.below_lt (lt_of b blk hb).1] at hc; exact hs.inside b q c k1 hc (solid_up _ _ _ k2 k3 h9)
  · obtain ⟨q, k1, k2, k3⟩ := hsub b blk hb
    rw [k3 hr] at k1
    rw [Ren.below_lt (lt_of b blk hb).1] at hc; exact hs.own b blk c k1 hc hr h9
  · obtain ⟨q, k1, k2, k3⟩ := hsub b blk hb
    obtain ⟨q', k1', k2', k3'⟩ := hsub b' blk' hb'
    rw [k3 hr] at k1
    rw [Ren.below_lt (lt_of b blk hb).1] at hc
    rw [Ren.below_lt (lt_of b' blk' hb').1] at hc'
    exact hs.apart b b' blk q' c c' k1 k1' hne hc hc' hr h8 (solid_up _ _ _ k2' k3' h9)
  · by_cases hl : b < hp.length
    · rw [Ren.below_lt hl]; exact hs.dom b (hf b hl hb)
    · simp [Ren.below, hl]
  · obtain ⟨q, k1, k2, k3⟩ := hsub b blk hb
    rw [k3 hr] at k1
    rw [Ren.below_lt (lt_of b blk hb).1] at hc; exact hs.above b blk c k1 hc hr h9

/-- Behind the call, in the caller's heap: what was touched is as the callee left it, all else as it was. -/
theorem after_call {Γ : Ctx} {ρ : Ren} {h : Heap} {w : World} (hI : Inv Γ ρ h w) {hp : Heap} (hsub : ∀ b blk, hp.get b = .live blk → ∃ blk' : Blk, h.get b = .live blk' ∧ blk'.cells = blk.cells ∧ (blk.rw = true → blk' = blk)) {ρ2 : Ren} {w' : World} {h' : Heap} (hJ : Inv ⟨hp.length, ρ.below hp.length, hp, w⟩ ρ2 h' w')
    (hn : Γ.n0 ≤ hp.length) {nw : Nat} (hnw : h'.length = hp.length + nw) (hfree : ∀ x, hp.length ≤ x → x < hp.length + nw → h.get x = .free) {g : Heap} {T : Nat → Prop}
    (hT1 : ∀ x blk, g.get x = .live blk → (T x ∧ h'.get x = .live blk ∧ blk.rw = true) ∨ (¬ T x ∧ h.get x = .live blk)) (hT2 : ∀ x, hp.length ≤ x → x < hp.length + nw → T x) (hT3 : ∀ x blk, hp.get x = .live blk → blk.rw = true → T x) (hT4 : ∀ x, T x → x < hp.length + nw) (hT5 : ∀ x, g.get x = .free → ¬ T x ∧ h.get x = .free) :
    ∃ ρ3, ρ.le ρ3 ∧ ρ2.le ρ3 ∧ Inv Γ ρ3 g w' := by
  let ρ3 : Ren := ⟨fun x => if hp.length ≤ x ∧ x < hp.length + nw then ρ2 x else ρ x, ρ.base⟩
  have lt_of : ∀ i blk, hp.get i = .live blk → i < hp.length := fun i blk hi => by
    rcases Nat.lt_or_ge i hp.length with h' | h'
    · exact h'
    · simp [Heap.get, List.getD_eq_getElem?_getD, List.getElem?_eq_none h'] at hi
  have agr : ∀ b, b < hp.length → ρ2 b = ρ b := fun b hb => by
    rw [hJ.agree b hb]; exact Ren.below_lt hb
  have hbase : ρ2.base = ρ.base := hJ.sameBase
  have ρ_new : ∀ x, (hp.length ≤ x ∧ x < hp.length + nw) → ρ3 x = ρ2 x := fun x hx => by simp only [ρ3]; rw [if_pos hx]
  have ρ_old : ∀ x, ¬ (hp.length ≤ x ∧ x < hp.length + nw) → ρ3 x = ρ x := fun x hx => by simp only [ρ3]; rw [if_neg hx]
  have ρ_T : ∀ x, T x → ρ3 x = ρ2 x := fun x hx => by
    by_cases hl : hp.length ≤ x
    · exact ρ_new x ⟨hl, hT4 x hx⟩
    · rw [ρ_old x (by omega), agr x (by omega)]
  have ρ_nT : ∀ x, ¬ T x → ρ3 x = ρ x := fun x hx => ρ_old x fun hx' => hx (hT2 x hx'.1 hx'.2)
  have hle : ρ.le ρ3 := ⟨fun x d hx => by
    rw [ρ_old x fun hx' => by rw [hI.sim.dom x (hfree x hx'.1 hx'.2)] at hx; cases hx]; exact hx, rfl⟩
  have hle2 : ρ2.le ρ3 := ⟨fun x d hx => by
    by_cases h1 : x < hp.length
    · rw [ρ_old x (by omega), ← agr x h1]; exact hx
    · by_cases h2 : x < hp.length + nw
      · rw [ρ_new x ⟨by omega, h2⟩]; exact hx
      · have : ρ2 x = none := hJ.sim.dom x (by
          simp [Heap.get, List.getD_eq_getElem?_getD, List.getElem?_eq_none (show h'.length ≤ x by omega)])
        rw [this] at hx; exact absurd hx (by simp), hbase.symm⟩
  have hsz : w.heap.size ≤ w'.heap.size := hJ.size
  -- what the callee may write belongs to blocks that were touched
  have owned_of : ∀ i, Ctx.owned ⟨hp.length, ρ.below hp.length, hp, w⟩ i → ∃ b blk c, T b ∧ h.get b = .live blk ∧ blk.rw = true ∧ ρ b = some c ∧ blk.solid c ∧ c.1 = i := by
    rintro i ⟨b, blk, c, hb1, hb2, hb3, hb4, hb5, hb6⟩
    have hb1 : b < hp.length := hb1
    have hb4 : ρ.below hp.length b = some c := hb4
    rw [Ren.below_lt hb1] at hb4
    obtain ⟨q, k1, k2, k3⟩ := hsub b blk hb2
    rw [k3 hb3] at k1
    exact ⟨b, blk, c, hT3 b blk hb2 hb3, k1, hb3, hb4, hb5, hb6⟩
  have keep : ∀ y yb d, ¬ T y → h.get y = .live yb → ρ y = some d → yb.solid d → w'.heap[d.1]? = w.heap[d.1]? := fun y yb d hy hyb hd hs => by
    refine hJ.keep d.1 (hI.sim.inside y yb d hyb hd hs) fun ho => ?_
    obtain ⟨b, blk, c, k1, k2, k3, k4, k5, k6⟩ := owned_of _ ho
    exact hI.sim.apart b y blk yb c d k2 hyb (fun e => hy (e ▸ k1)) k4 hd k3 k5 hs k6
  have apartT : ∀ x xb c y yb d, T x → h'.get x = .live xb → xb.rw = true → ρ2 x = some c → xb.solid c → ¬ T y → h.get y = .live yb → ρ y = some d → yb.solid d → c.1 ≠ d.1 := fun x xb c y yb d hx hxb hr hc hs hy hyb hd hs' e => by
    rcases hJ.fresh x xb c hxb hc hr hs with h1 | h1
    · have := hI.sim.inside y yb d hyb hd hs'
      have h1 : w.heap.size ≤ c.1 := h1
      omega
    · obtain ⟨b, blk, c', k1, k2, k3, k4, k5, k6⟩ := owned_of _ h1
      exact hI.sim.apart b y blk yb c' d k2 hyb (fun e => hy (e ▸ k1)) k4 hd k3 k5 hs' (k6.trans e)
  refine ⟨ρ3, hle, hle2, ⟨⟨?_, ?_, ?_, ?_, ?_, ?_, ?_, ?_, ?_⟩, ?_, hI.sameBase, hJ.os.trans hI.os, hJ.tape.trans hI.tape, hJ.output.trans hI.output, Nat.le_trans hI.size hsz, ?_, ?_⟩⟩
  · intro x blk hx
    rcases hT1 x blk hx with ⟨h1, h2, _⟩ | ⟨h1, h2⟩
    · rw [ρ_T x h1]; exact hJ.sim.some_ _ blk h2
    · rw [ρ_nT x h1]; exact hI.sim.some_ x blk h2
  · intro x blk c hx hc
    rcases hT1 x blk hx with ⟨h1, h2, _⟩ | ⟨h1, h2⟩
    · rw [ρ_T x h1] at hc
      exact (hJ.sim.cells x blk c h2 hc).mono hle2
    · rw [ρ_nT x h1] at hc
      exact ((hI.sim.cells x blk c h2 hc).of_cell fun hpos o => cell_of_heap (keep x blk c h1 h2 hc (.inl hpos)) o).mono hle
  · intro x blk c hx hc hs
    rcases hT1 x blk hx with ⟨h1, h2, _⟩ | ⟨h1, h2⟩
    · rw [ρ_T x h1] at hc; exact hJ.sim.inside x blk c h2 hc hs
    · rw [ρ_nT x h1] at hc; have := hI.sim.inside x blk c h2 hc hs; omega
  · intro x blk c hx hc hr hs
    rcases hT1 x blk hx with ⟨h1, h2, _⟩ | ⟨h1, h2⟩
    · rw [ρ_T x h1] at hc; exact hJ.sim.own x blk c h2 hc hr hs
    · rw [ρ_nT x h1] at hc
      obtain ⟨k1, cs, el, k2, k3⟩ := hI.sim.own x blk c h2 hc hr hs
      exact ⟨k1, cs, el, by rw [keep x blk c h1 h2 hc hs]; exact k2, k3⟩
  · intro x y xb yb c d hx hy hne hc hd hr hs hs'
    rcases hT1 x xb hx with ⟨h1, h2, hrx⟩ | ⟨h1, h2⟩
    · rw [ρ_T x h1] at hc
      rcases hT1 y yb hy with ⟨k1, k2, _⟩ | ⟨k1, k2⟩
      · rw [ρ_T y k1] at hd
        exact hJ.sim.apart x y xb yb c d h2 k2 hne hc hd hr hs hs'
      · rw [ρ_nT y k1] at hd
        exact apartT x xb c y yb d h1 h2 hr hc hs k1 k2 hd hs'
    · rw [ρ_nT x h1] at hc
      rcases hT1 y yb hy with ⟨k1, k2, k3⟩ | ⟨k1, k2⟩
      · rw [ρ_T y k1] at hd
        exact (apartT y yb d x xb c k1 k2 k3 hd hs' h1 h2 hc hs).symm
      · rw [ρ_nT y k1] at hd
        exact hI.sim.apart x y xb yb c d h2 k2 hne hc hd hr hs hs'
  · intro x hx
    obtain ⟨h1, h2⟩ := hT5 x hx
    rw [ρ_nT x h1]; exact hI.sim.dom x h2
  · show ρ.base.heap.size ≤ _
    have := hI.sim.baseLe; omega
  · intro i hi
    have := hJ.sim.old i (by rw [hbase]; exact hi)
    rw [this, hbase]
  · intro x blk c hx hc hr hs
    show ρ.base.heap.size ≤ _
    rcases hT1 x blk hx with ⟨h1, h2, _⟩ | ⟨h1, h2⟩
    · rw [ρ_T x h1] at hc
      have := hJ.sim.above x blk c h2 hc hr hs
      rw [hbase] at this; exact this
    · rw [ρ_nT x h1] at hc; exact hI.sim.above x blk c h2 hc hr hs
  · intro b hb
    rw [ρ_old b (by omega)]; exact hI.agree b hb
  · intro i hi hno
    have hi2 : i < w.heap.size := by have := hI.size; omega
    rw [show w'.heap[i]? = w.heap[i]? from hJ.keep i hi2 fun ho => ?_]
    · exact hI.keep i hi hno
    · obtain ⟨b, blk, c, k1, k2, k3, k4, k5, k6⟩ := owned_of _ ho
      rcases hI.fresh b blk c k2 k4 k3 k5 with h1 | h1
      · omega
      · rw [k6] at h1; exact hno h1
  · intro x blk c hx hc hr hs
    rcases hT1 x blk hx with ⟨h1, h2, _⟩ | ⟨h1, h2⟩
    · rw [ρ_T x h1] at hc
      rcases hJ.fresh x blk c h2 hc hr hs with h3 | h3
      · have h3 : w.heap.size ≤ c.1 := h3
        have := hI.size
        exact .inl (by omega)
      · obtain ⟨b, blk', c', k1, k2, k3, k4, k5, k6⟩ := owned_of _ h3
        rw [← k6]
        exact hI.fresh b blk' c' k2 k4 k3 k5
    · rw [ρ_nT x h1] at hc; exact hI.fresh x blk c h2 hc hr hs

/-! ### from code -/
theorem does_of_codeK {β : Type} {P : Program} (hm : P.follows .mixedOrders = true) {f : FuncId} {fn : Func} {c : Code} (hf : P.funcs[f]? = some fn) (hb : fn.body = some c) (hname : (fn.name == "runtime.NumGoroutine") = false)
    {env : Env P} {fuel : Nat} {L : Loops P} (hL : L.fit c) {args : List AV} {hp : Heap} {K : Exit → List AV → Heap → Option β} {r : β}
    (hr : codeK P env hp.length fuel L [] (.code c) (args ++ List.replicate (fn.ntmps - args.length) (.val undef)) hp K = some r) :
    ∃ e t' h', K e t' h' = some r ∧ hp.length ≤ h'.length ∧ ∀ vs, okExit e = true → resA P t' h' fn.results.toList = some vs → Does P f args hp (resV vs) h' := by
  obtain ⟨e, t1, h1, hk, hn1, hg⟩ := codeK_ok hm fuel L [] (.code c) _ _ _ c hL (.inr rfl) (Nat.le_refl _) hr
  refine ⟨e, t1, h1, hk, hn1, fun vs hex hvs => ?_⟩
  intro ρ w cargs hsim hargs
  unfold Invokes
  have hcall : (callFunc f cargs).run P w = .ok (.enter f cargs) w := by
    simp only [callFunc, program, Sem.run_bind, Sem.run, Result.andThen, hf]
    simp only [hname, hb, Option.isNone_some, Bool.false_eq_true, if_false]
    rfl
  rw [hcall]
  simp only
  have hlen := hargs.length
  refine calls_of_wp hf hb ?_
  let Γ : Ctx := ⟨hp.length, ρ, hp, w⟩
  have hI : Inv Γ ρ hp w := by
    refine ⟨hsim, fun _ _ => rfl, rfl, rfl, rfl, rfl, Nat.le_refl _, fun _ _ _ => rfl, fun b blk d hb hd hrw hs => ?_⟩
    refine .inr ⟨b, blk, d, ?_, hb, hrw, hd, hs, rfl⟩
    rcases Nat.lt_or_ge b hp.length with h' | h'
    · exact h'
    · simp [Heap.get, List.getD_eq_getElem?_getD, List.getElem?_eq_none h'] at hb
  have hV : VRs ρ (args ++ List.replicate (fn.ntmps - args.length) (.val undef)) ({ tmps := cargs ++ Array.replicate (fn.ntmps - cargs.size) undef, defers := [] } : Act).tmps.toList := by
    simp only [Array.toList_append, Array.toList_replicate]
    refine hargs.append ?_
    rw [hlen]
    simpa using VRs.replicate (ρ := ρ) (a := .val undef) (v := undef) (by simp [VR]) (fn.ntmps - cargs.size)
  refine wp_mono (hg.2 Γ rfl ρ w _ hI hV rfl) fun e2 a2 w2 hp => ?_
  obtain ⟨rfl, ρ2, g2, g3, g4⟩ := hp
  obtain ⟨us, cv, k1, k2, k3⟩ := run_results_list (P := P) g2 g3 hvs
  cases e2 with
  | ret => exact ⟨g4, cv, k1, ρ2, cv, rfl, k3 ρ2 vs k2, g2⟩
  | normal => exact ⟨g4, cv, k1, ρ2, cv, rfl, k3 ρ2 vs k2, g2⟩
  | _ => simp [okExit] at hex

/-! ### the summary -/
def reachF (H : Nat → Ent) : Nat → Nat → List Nat → List Nat
  | 0, _, σ => σ
  | f + 1, i, σ => match σ[i]? with
    | none => σ
    | some b => reachF H f (i + 1) (match H b with
      | .live blk => (match blk.cells with
        | .lit l => blksL l σ
        | _ => σ)
      | _ => σ)
def rwOnly : Ent → Ent
  | .live b => if b.rw = true then .live b else .dead
  | _ => .dead
theorem rwOnly_live {e : Ent} {blk : Blk} (h : rwOnly e = .live blk) : e = .live blk ∧ blk.rw = true := by
  unfold rwOnly at h
  split at h
  · split at h
    · rename_i b hb; injection h with h; subst h; exact ⟨rfl, hb⟩
    · cases h
  · cases h
theorem rwOnly_free {e : Ent} : rwOnly e ≠ .free := by
  unfold rwOnly
  split
  · split <;> simp
  · simp
def isRw : Ent → Bool
  | .live b => b.rw
  | _ => false
/-- The entry as the callee may use it. -/
def lend (wr : List AV → Bool) : Ent → Ent
  | .live b => .live { b with rw := b.rw && (match b.cells with
    | .lit l => wr l
    | _ => true) }
  | e => e
def partHeap (wr : List AV → Bool) (H : Nat → Ent) (new : Nat) (R : List Nat) : Heap := (List.range new).map fun b => if R.contains b then lend wr (H b) else .dead
theorem lend_live {wr : List AV → Bool} {e : Ent} {blk : Blk} (h : lend wr e = .live blk) : ∃ blk' : Blk, e = .live blk' ∧ blk'.cells = blk.cells ∧ (blk.rw = true → blk' = blk) := by
  cases e with
  | live b =>
    simp only [lend] at h
    injection h with h; subst h
    refine ⟨b, rfl, rfl, fun hr => ?_⟩
    have hr : (b.rw && (match b.cells with
      | .lit l => wr l
      | _ => true)) = true := hr
    rw [hr]
    simp only [Bool.and_eq_true] at hr
    have := hr.1
    cases b; simp at this; rw [this]
  | free => simp [lend] at h
  | dead => simp [lend] at h
theorem lend_free {wr : List AV → Bool} {e : Ent} (h : lend wr e = .free) : e = .free := by
  cases e with
  | live b => simp [lend] at h
  | free => rfl
  | dead => simp [lend] at h
def wbOld (hp h' : Heap) : List Nat → List (Nat × Ent)
  | [] => []
  | b :: l => if isRw (hp.get b) then (b, rwOnly (h'.get b)) :: wbOld hp h' l else wbOld hp h' l
def newsE (h' : Heap) (Z : List Nat) : Nat → Nat → List (Nat × Ent)
  | _, 0 => []
  | k, n + 1 => (k, if Z.contains k then rwOnly (h'.get k) else .dead) :: newsE h' Z (k + 1) n
theorem mem_wbOld {hp h' : Heap} {x : Nat} {e : Ent} : ∀ {l : List Nat}, (x, e) ∈ wbOld hp h' l → x ∈ l ∧ isRw (hp.get x) = true ∧ e = rwOnly (h'.get x)
  | [], h => by simp [wbOld] at h
  | b :: l, h => by
    simp only [wbOld] at h
    split at h
    · rename_i hb
      rcases List.mem_cons.1 h with h | h
      · injection h with h1 h2; subst h1; exact ⟨List.mem_cons_self .., hb, h2⟩
      · obtain ⟨h1, h2⟩ := mem_wbOld h; exact ⟨List.mem_cons_of_mem _ h1, h2⟩
    · obtain ⟨h1, h2⟩ := mem_wbOld h; exact ⟨List.mem_cons_of_mem _ h1, h2⟩
theorem wbOld_mem {hp h' : Heap} {x : Nat} (hx : isRw (hp.get x) = true) : ∀ {l : List Nat}, x ∈ l → (x, rwOnly (h'.get x)) ∈ wbOld hp h' l
  | [], h => by simp at h
  | b :: l, h => by
    simp only [wbOld]
    rcases List.mem_cons.1 h with rfl | h
    · rw [if_pos hx]; exact List.mem_cons_self ..
    · have := wbOld_mem (hp := hp) (h' := h') hx h
      split
      · exact List.mem_cons_of_mem _ this
      · exact this
theorem mem_newsE {h' : Heap} {Z : List Nat} {x : Nat} {e : Ent} : ∀ {k n : Nat}, (x, e) ∈ newsE h' Z k n → k ≤ x ∧ x < k + n ∧ (e = rwOnly (h'.get x) ∨ e = .dead)
  | k, 0, h => by simp [newsE] at h
  | k, n + 1, h => by
    simp only [newsE] at h
    rcases List.mem_cons.1 h with h | h
    · injection h with h1 h2; subst h1
      refine ⟨Nat.le_refl _, by omega, ?_⟩
      rw [h2]; split
      · exact .inl rfl
      · exact .inr rfl
    · obtain ⟨h1, h2, h3⟩ := mem_newsE h
      exact ⟨by omega, by omega, h3⟩
theorem newsE_mem {h' : Heap} {Z : List Nat} {x : Nat} : ∀ {k n : Nat}, k ≤ x → x < k + n → ∃ e, (x, e) ∈ newsE h' Z k n
  | k, 0, h1, h2 => by omega
  | k, n + 1, h1, h2 => by
    simp only [newsE]
    by_cases hx : x = k
    · subst hx; exact ⟨_, List.mem_cons_self ..⟩
    · obtain ⟨e, he⟩ := newsE_mem (h' := h') (Z := Z) (k := k + 1) (n := n) (x := x) (by omega) (by omega)
      exact ⟨e, List.mem_cons_of_mem _ he⟩

def outE (hp h' : Heap) (R Z : List Nat) (v : AV) : Eff := { rb := R, wb := wbOld hp h' R ++ newsE h' Z hp.length (h'.length - hp.length), nw := h'.length - hp.length, val := v }

theorem partHeap_get {wr : List AV → Bool} {H : Nat → Ent} {new : Nat} {R : List Nat} {b : Nat} : (partHeap wr H new R).get b = if b < new then (if R.contains b then lend wr (H b) else .dead) else .free := by
  unfold partHeap Heap.get
  rw [List.getD_eq_getElem?_getD, List.getElem?_map]
  by_cases hb : b < new
  · rw [if_pos hb, List.getElem?_range hb]; rfl
  · rw [if_neg hb, List.getElem?_eq_none (by simpa using hb)]; rfl

theorem callOK_of_does {P : Program} {wr : List AV → Bool} {f : FuncId} {args : List AV} {H : Nat → Ent} {new : Nat} {R Z : List Nat} {v : AV} {h' : Heap} (hargs : okL new args = true) (hents : okEnts new (partHeap wr H new R) = true) (hn' : new ≤ h'.length) (hd : Does P f args (partHeap wr H new R) v h') :
    CallOK P f args H new (outE (partHeap wr H new R) h' R Z v) := by
  intro Γ ρ h w cargs hI hV hH hn hfree
  have hH : ∀ b ∈ R, h.get b = H b := hH
  generalize hpe : partHeap wr H new R = hp at *
  have hlen : hp.length = new := by rw [← hpe]; simp [partHeap]
  have hget : ∀ b, hp.get b = if b < new then (if R.contains b then lend wr (H b) else .dead) else .free := fun b => by rw [← hpe]; exact partHeap_get
  subst hlen
  have hsub : ∀ b blk, hp.get b = .live blk → (∃ blk' : Blk, h.get b = .live blk' ∧ blk'.cells = blk.cells ∧ (blk.rw = true → blk' = blk)) ∧ b ∈ R := fun b blk hb => by
    rw [hget] at hb
    split at hb
    · split at hb
      · rename_i hc
        have hc : b ∈ R := by simpa using hc
        rw [hH b hc]; exact ⟨lend_live hb, hc⟩
      · cases hb
    · cases hb
  have hfr : ∀ b, b < hp.length → hp.get b = .free → h.get b = .free := fun b hb hb' => by
    rw [hget, if_pos hb] at hb'
    split at hb'
    · rename_i hc
      rw [hH b (by have : b ∈ R := by simpa using hc
                   exact this)]; exact lend_free hb'
    · cases hb'
  have hsim := hI.sim.below (hp := hp) (fun b blk hb => (hsub b blk hb).1) hfr hents
  refine (hd _ w cargs hsim (VRs.below _ _ hargs hV)).mono fun e w' ⟨ρ2, cv, he, hvv, hJ⟩ => ?_
  let T : Nat → Prop := fun x => isRw (hp.get x) = true ∨ (hp.length ≤ x ∧ x < h'.length)
  have hfree : ∀ x, hp.length ≤ x → x < hp.length + (h'.length - hp.length) → h.get x = .free := hfree
  have rw_lt : ∀ x, isRw (hp.get x) = true → x < hp.length ∧ x ∈ R := fun x hx => by
    cases hq : hp.get x with
    | live blk =>
      refine ⟨?_, (hsub x blk hq).2⟩
      rcases Nat.lt_or_ge x hp.length with h9 | h9
      · exact h9
      · rw [hget, if_neg (by omega)] at hq; cases hq
    | free => rw [hq] at hx; cases hx
    | dead => rw [hq] at hx; cases hx
  have cases_ := fun x => get_upds (wbOld hp h' R ++ newsE h' Z hp.length (h'.length - hp.length)) h x
  have inT : ∀ x e, (x, e) ∈ wbOld hp h' R ++ newsE h' Z hp.length (h'.length - hp.length) → T x ∧ (e = rwOnly (h'.get x) ∨ e = .dead) := fun x e hm => by
    rcases List.mem_append.1 hm with hm | hm
    · obtain ⟨h1, h2, h3⟩ := mem_wbOld hm; exact ⟨.inl h2, .inl h3⟩
    · obtain ⟨h1, h2, h3⟩ := mem_newsE hm; exact ⟨.inr ⟨h1, by omega⟩, h3⟩
  have notT : ∀ x, (∀ e, (x, e) ∉ wbOld hp h' R ++ newsE h' Z hp.length (h'.length - hp.length)) → ¬ T x := fun x hno hT => by
    rcases hT with hT | ⟨h1, h2⟩
    · exact hno _ (List.mem_append.2 (.inl (wbOld_mem hT (rw_lt x hT).2)))
    · obtain ⟨e, he⟩ := newsE_mem (h' := h') (Z := Z) (k := hp.length) (n := h'.length - hp.length) (x := x) h1 (by omega)
      exact hno e (List.mem_append.2 (.inr he))
  obtain ⟨ρ3, k1, k2, k3⟩ := after_call hI (hp := hp) (fun b blk hb => (hsub b blk hb).1) hJ hn (nw := h'.length - hp.length) (by omega) hfree
    (g := h.upds (wbOld hp h' R ++ newsE h' Z hp.length (h'.length - hp.length))) (T := T)
    (fun x blk hx => by
      rcases cases_ x with ⟨e, h1, h2⟩ | ⟨h1, h2⟩
      · obtain ⟨h3, h4⟩ := inT x e h1
        rw [h2] at hx
        rcases h4 with h4 | h4
        · rw [h4] at hx; exact .inl ⟨h3, rwOnly_live hx⟩
        · rw [h4] at hx; cases hx
      · rw [h2] at hx; exact .inr ⟨notT x h1, hx⟩)
    (fun x h1 h2 => .inr ⟨h1, by omega⟩)
    (fun x blk h1 h2 => .inl (by rw [h1]; exact h2))
    (fun x hT => by
      rcases hT with hT | hT
      · have := (rw_lt x hT).1; omega
      · omega)
    (fun x hx => by
      rcases cases_ x with ⟨e, h1, h2⟩ | ⟨h1, h2⟩
      · obtain ⟨h3, h4⟩ := inT x e h1
        rw [h2] at hx
        rcases h4 with h4 | h4
        · rw [h4] at hx; exact absurd hx rwOnly_free
        · rw [h4] at hx; cases hx
      · rw [h2] at hx; exact ⟨notT x h1, hx⟩)
  exact ⟨ρ3, cv, he, k1, VR.mono k2 _ _ hvv, k3⟩

def inlS {β : Type} (wr : List AV → Bool) (P : Program) (env : Env P) (fuel : Nat) (L : Loops P) (fn : Func) (c : Code) (H : Nat → Ent) (new : Nat) (args : List AV) (K : Eff → Option β) : Option β :=
  let R := reachF H 1000 0 (blksL args [])
  let hp := partHeap wr H new R
  match okL new args && okEnts new hp with
  | true => codeK P env new fuel L [] (.code c) (args ++ List.replicate (fn.ntmps - args.length) (.val undef)) hp fun e t h' => match okExit e with
    | true => (match resA P t h' fn.results.toList with
      | some vs => K (outE hp h' R (reachF h'.get 1000 0 (blksL vs R)) (resV vs))
      | none => none)
    | false => none
  | false => none

/-- A function by its own code, evaluated anew at each call. -/
def inlSumm {P : Program} (wr : List AV → Bool) (hm : P.follows .mixedOrders = true) (f : FuncId) (fn : Func) (c : Code) (hf : P.funcs[f]? = some fn) (hb : fn.body = some c) (hname : (fn.name == "runtime.NumGoroutine") = false) (env : Env P) (fuel : Nat) (L : Loops P) (hL : L.fit c) : Summ P where
  f := f
  S := fun H new args K => inlS wr P env fuel L fn c H new args K
  ok := by
    intro β H new args K r hs
    unfold inlS at hs
    simp only at hs
    split at hs
    case h_2 => cases hs
    rename_i hok
    simp only [Bool.and_eq_true] at hok
    have hlen : (partHeap wr H new (reachF H 1000 0 (blksL args []))).length = new := by simp [partHeap]
    obtain ⟨e, t', h', hk, hn', hd⟩ := does_of_codeK hm hf hb hname hL (hp := partHeap wr H new (reachF H 1000 0 (blksL args []))) (by rw [hlen]; exact hs)
    split at hk
    case h_2 => cases hk
    rename_i hex
    split at hk
    case h_2 => cases hk
    rename_i vs hvs
    exact ⟨_, hk, callOK_of_does hok.1 hok.2 (by rw [hlen] at hn'; exact hn') (hd vs hex hvs)⟩

/-- The callee writes nothing that it is handed but blocks of one bool. -/
def onlyM : List AV → Bool
  | [.val (.bool _)] => true
  | _ => false
def allRw : List AV → Bool := fun _ => true

end Go.Ab
