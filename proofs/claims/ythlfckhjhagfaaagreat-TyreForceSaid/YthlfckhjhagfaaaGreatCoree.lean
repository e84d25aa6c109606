/- An engine that names no program: what code does to what memory shows, evaluated over abstract values and an abstract heap, and that it is so. -/
import Derived.Test.YthlfckhjhagfaaaGreatCored
import Derived.Laws.Externs
import Derived.Lib.ReflectliteSlice
import Derived.RangeFuncIn
import Derived.RangeFuncRecord
import Derived.RangeFuncNested
set_option linter.unusedVariables false
set_option linter.unusedSimpArgs false
namespace Go.Ab
def Ren.below (ρ : Ren) (n : Nat) : Ren := ⟨fun b => if b < n then ρ b else none, ρ.base⟩
theorem Ren.below_lt {ρ : Ren} {n b : Nat} (h : b < n) : ρ.below n b = ρ b := by simp [Ren.below, h]
mutual
theorem VR.below {ρ : Ren} {n : Nat} : ∀ (v : AV) (cv : Value), okA n v = true → VR ρ v cv → VR (ρ.below n) v cv
  | .any, _, _, _ => by simp [VR]
  | .val v, cv, _, h => by simpa [VR] using h
  | .ptr b o, cv, hk, h => by
    simp only [okA, decide_eq_true_eq] at hk
    simp only [VR] at *
    rw [Ren.below_lt hk]; exact h
  | .elt b o i w f, cv, hk, h => by
    simp only [okA, decide_eq_true_eq] at hk
    simp only [VR] at *
    rw [Ren.below_lt hk]; exact h
  | .slc b o n' (.exact c), cv, hk, h => by
    simp only [okA, decide_eq_true_eq] at hk
    simp only [VR] at *
    rw [Ren.below_lt hk]; exact h
  | .slc b o n' .unk, cv, hk, h => by
    simp only [okA, decide_eq_true_eq] at hk
    simp only [VR] at *
    rw [Ren.below_lt hk]; exact h
  | .slc b o n' .low, cv, hk, h => by
    simp only [okA, decide_eq_true_eq] at hk
    simp only [VR] at *
    rw [Ren.below_lt hk]; exact h
  | .slc b o n' .part, cv, hk, h => by
    simp only [okA, decide_eq_true_eq] at hk
    simp only [VR] at *
    rw [Ren.below_lt hk]; exact h
  | .slc b o n' .nn, cv, hk, h => by
    simp only [okA, decide_eq_true_eq] at hk
    simp only [VR] at *
    rw [Ren.below_lt hk]; exact h
  | .fn f fs cs, cv, hk, h => by
    simp only [okA, Bool.and_eq_true] at hk
    simp only [VR] at *
    obtain ⟨fs', cs', h1, h2, h3⟩ := h
    exact ⟨fs', cs', h1, VRs.below _ _ hk.1 h2, VRs.below _ _ hk.2 h3⟩
  | .agg cs, cv, hk, h => by
    simp only [okA] at hk
    simp only [VR] at *
    obtain ⟨cs', h1, h2⟩ := h
    exact ⟨cs', h1, VRs.below _ _ hk h2⟩
  | .tup cs, cv, hk, h => by
    simp only [okA] at hk
    simp only [VR] at *
    obtain ⟨cs', h1, h2⟩ := h
    exact ⟨cs', h1, VRs.below _ _ hk h2⟩
  | .ifc t v, cv, hk, h => by
    simp only [okA] at hk
    simp only [VR] at *
    obtain ⟨v', h1, h2⟩ := h
    exact ⟨v', h1, VR.below _ _ hk h2⟩
theorem VRs.below {ρ : Ren} {n : Nat} : ∀ (vs : List AV) (cvs : List Value), okL n vs = true → VRs ρ vs cvs → VRs (ρ.below n) vs cvs
  | [], [], _, _ => by simp [VRs]
  | a :: as, v :: vs, hk, h => by
    simp only [okL, Bool.and_eq_true] at hk
    simp only [VRs] at *
    exact ⟨VR.below _ _ hk.1 h.1, VRs.below _ _ hk.2 h.2⟩
  | [], _ :: _, _, h => by simp [VRs] at h
  | _ :: _, [], _, h => by simp [VRs] at h
end
theorem CellsAt.below {ρ : Ren} {n : Nat} {w : World} {cb co : Nat} {cs : Cells} (hk : okCells n cs = true) (h : CellsAt ρ w cb co cs) : CellsAt (ρ.below n) w cb co cs := by
  cases cs with
  | lit l =>
    intro i v hi
    obtain ⟨cv, h1, h2⟩ := h i v hi
    exact ⟨cv, h1, VR.below _ _ (okL_get hk hi) h2⟩
  | sym l => exact h
  | rows l => exact h
  | arr s l => exact h
  | arrs s l => exact h
theorem Sim.below {ρ : Ren} {h : Heap} {w : World} (hs : Sim ρ h w) {hp : Heap} (hsub : ∀ b blk, hp.get b = .live blk → ∃ blk' : Blk, h.get b = .live blk' ∧ blk'.cells = blk.cells ∧ (blk.rw = true → blk' = blk)) (hf : ∀ b, b < hp.length → hp.get b = .free → h.get b = .free) (hok : okEnts hp.length hp = true) : Sim (ρ.below hp.length) hp w := by
  have lt_of : ∀ i blk, hp.get i = .live blk → i < hp.length ∧ hp[i]? = some (.live blk) := fun i blk hi => by
    rcases Nat.lt_or_ge i hp.length with h' | h'
    · refine ⟨h', ?_⟩
      rw [Heap.get, List.getD_eq_getElem?_getD, List.getElem?_eq_getElem h'] at hi
      rw [List.getElem?_eq_getElem h']; simpa using hi
    · simp [Heap.get, List.getD_eq_getElem?_getD, List.getElem?_eq_none h'] at hi
  have solid_up : ∀ (blk blk' : Blk) c, blk'.cells = blk.cells → (blk.rw = true → blk' = blk) → blk.solid c → blk'.solid c := fun blk blk' c h1 h2 h3 => by
    rcases h3 with h3 | h3
    · exact .inl (by rw [h1]; exact h3)
    · rw [h2 h3.1]; exact .inr h3
  refine ⟨fun b blk hb => ?_, fun b blk c hb hc => ?_, fun b blk c hb hc h9 => ?_, fun b blk c hb hc hr h9 => ?_, fun b b' blk blk' c c' hb hb' hne hc hc' hr h8 h9 => ?_, fun b hb => ?_, hs.baseLe, hs.old, fun b blk c hb hc hr h9 => ?_⟩
  · obtain ⟨q, k1, k2, k3⟩ := hsub b blk hb
    rw [Ren.below_lt (lt_of b blk hb).1]; exact hs.some_ b q k1
  · obtain ⟨q, k1, k2, k3⟩ := hsub b blk hb
    rw [Ren.below_lt (lt_of b blk hb).1] at hc
    have := hs.cells b q c k1 hc
    rw [k2] at this
    exact CellsAt.below (okEnts_get hok (lt_of b blk hb).2) this
  · obtain ⟨q, k1, k2, k3⟩ := hsub b blk hb
    rw [Ren.below_lt (lt_of b blk hb).1] at hc; exact hs.inside b q c k1 hc (solid_up _ _ _ k2 k3 h9)
  · obtain ⟨q, k1, k2, k3⟩ := hsub b blk hb
    rw [k3 hr] at k1
    rw [Ren.below_lt (lt_of b blk hb).1] at hc; exact hs.own b blk c k1 hc hr h9
  · obtain ⟨q, k1, k2, k3⟩ := hsub b blk hb
    obtain ⟨q', k1', k2', k3'⟩ := hsub b' blk' hb'
    rw [k3 hr] at k1
    rw [Ren.below_lt (lt_of b blk hb).1] at hc
    rw [Ren.below_lt (lt_of b' blk' hb').1] at hc'
    exact hs.apart b b' blk q' c c' k1 k1' hne hc hc' hr h8 (solid_up _ _ _ k2' k3' h9)
  · by_cases hl : b < hp.length
    · rw [Ren.below_lt hl]; exact hs.dom b (hf b hl hb)
    · simp [Ren.below, hl]
  · obtain ⟨q, k1, k2, k3⟩ := hsub b blk hb
    rw [k3 hr] at k1
    rw [Ren.below_lt (lt_of b blk hb).1] at hc; exact hs.above b blk c k1 hc hr h9
theorem after_call {Γ : Ctx} {ρ : Ren} {h : Heap} {w : World} (hI : Inv Γ ρ h w) {hp : Heap} (hsub : ∀ b blk, hp.get b = .live blk → ∃ blk' : Blk, h.get b = .live blk' ∧ blk'.cells = blk.cells ∧ (blk.rw = true → blk' = blk)) {ρ2 : Ren} {w' : World} {h' : Heap} (hJ : Inv ⟨hp.length, ρ.below hp.length, hp, w⟩ ρ2 h' w')
    (hn : Γ.n0 ≤ hp.length) {nw : Nat} (hnw : h'.length = hp.length + nw) (hfree : ∀ x, hp.length ≤ x → x < hp.length + nw → h.get x = .free) {g : Heap} {T : Nat → Prop}
    (hT1 : ∀ x blk, g.get x = .live blk → (T x ∧ h'.get x = .live blk ∧ blk.rw = true) ∨ (¬ T x ∧ h.get x = .live blk)) (hT2 : ∀ x, hp.length ≤ x → x < hp.length + nw → T x) (hT3 : ∀ x blk, hp.get x = .live blk → blk.rw = true → T x) (hT4 : ∀ x, T x → x < hp.length + nw) (hT5 : ∀ x, g.get x = .free → ¬ T x ∧ h.get x = .free) :
    ∃ ρ3, ρ.le ρ3 ∧ ρ2.le ρ3 ∧ Inv Γ ρ3 g w' := by
  let ρ3 : Ren := ⟨fun x => if hp.length ≤ x ∧ x < hp.length + nw then ρ2 x else ρ x, ρ.base⟩
  have lt_of : ∀ i blk, hp.get i = .live blk → i < hp.length := fun i blk hi => by
    rcases Nat.lt_or_ge i hp.length with h' | h'
    · exact h'
    · simp [Heap.get, List.getD_eq_getElem?_getD, List.getElem?_eq_none h'] at hi
  have agr : ∀ b, b < hp.length → ρ2 b = ρ b := fun b hb => by
    rw [hJ.agree b hb]; exact Ren.below_lt hb
  have hbase : ρ2.base = ρ.base := hJ.sameBase
  have ρ_new : ∀ x, (hp.length ≤ x ∧ x < hp.length + nw) → ρ3 x = ρ2 x := fun x hx => by simp only [ρ3]; rw [if_pos hx]
  have ρ_old : ∀ x, ¬ (hp.length ≤ x ∧ x < hp.length + nw) → ρ3 x = ρ x := fun x hx => by simp only [ρ3]; rw [if_neg hx]
  have ρ_T : ∀ x, T x → ρ3 x = ρ2 x := fun x hx => by
    by_cases hl : hp.length ≤ x
    · exact ρ_new x ⟨hl, hT4 x hx⟩
    · rw [ρ_old x (by omega), agr x (by omega)]
  have ρ_nT : ∀ x, ¬ T x → ρ3 x = ρ x := fun x hx => ρ_old x fun hx' => hx (hT2 x hx'.1 hx'.2)
  have hle : ρ.le ρ3 := ⟨fun x d hx => by
    rw [ρ_old x fun hx' => by rw [hI.sim.dom x (hfree x hx'.1 hx'.2)] at hx; cases hx]; exact hx, rfl⟩
  have hle2 : ρ2.le ρ3 := ⟨fun x d hx => by
    by_cases h1 : x < hp.length
    · rw [ρ_old x (by omega), ← agr x h1]; exact hx
    · by_cases h2 : x < hp.length + nw
      · rw [ρ_new x ⟨by omega, h2⟩]; exact hx
      · have : ρ2 x = none := hJ.sim.dom x (by
          simp [Heap.get, List.getD_eq_getElem?_getD, List.getElem?_eq_none (show h'.length ≤ x by omega)])
        rw [this] at hx; exact absurd hx (by simp), hbase.symm⟩
  have hsz : w.heap.size ≤ w'.heap.size := hJ.size
  -- what the callee may write belongs to blocks that were touched
  have owned_of : ∀ i, Ctx.owned ⟨hp.length, ρ.below hp.length, hp, w⟩ i → ∃ b blk c, T b ∧ h.get b = .live blk ∧ blk.rw = true ∧ ρ b = some c ∧ blk.solid c ∧ c.1 = i := by
    rintro i ⟨b, blk, c, hb1, hb2, hb3, hb4, hb5, hb6⟩
    have hb1 : b < hp.length := hb1
    have hb4 : ρ.below hp.length b = some c := hb4
    rw [Ren.below_lt hb1] at hb4
    obtain ⟨q, k1, k2, k3⟩ := hsub b blk hb2
    rw [k3 hb3] at k1
    exact ⟨b, blk, c, hT3 b blk hb2 hb3, k1, hb3, hb4, hb5, hb6⟩
  have keep : ∀ y yb d, ¬ T y → h.get y = .live yb → ρ y = some d → yb.solid d → w'.heap[d.1]? = w.heap[d.1]? := fun y yb d hy hyb hd hs => by
    refine hJ.keep d.1 (hI.sim.inside y yb d hyb hd hs) fun ho => ?_
    obtain ⟨b, blk, c, k1, k2, k3, k4, k5, k6⟩ := owned_of _ ho
    exact hI.sim.apart b y blk yb c d k2 hyb (fun e => hy (e ▸ k1)) k4 hd k3 k5 hs k6
  have apartT : ∀ x xb c y yb d, T x → h'.get x = .live xb → xb.rw = true → ρ2 x = some c → xb.solid c → ¬ T y → h.get y = .live yb → ρ y = some d → yb.solid d → c.1 ≠ d.1 := fun x xb c y yb d hx hxb hr hc hs hy hyb hd hs' e => by
    rcases hJ.fresh x xb c hxb hc hr hs with h1 | h1
    · have := hI.sim.inside y yb d hyb hd hs'
      have h1 : w.heap.size ≤ c.1 := h1
      omega
    · obtain ⟨b, blk, c', k1, k2, k3, k4, k5, k6⟩ := owned_of _ h1
      exact hI.sim.apart b y blk yb c' d k2 hyb (fun e => hy (e ▸ k1)) k4 hd k3 k5 hs' (k6.trans e)
  refine ⟨ρ3, hle, hle2, ⟨⟨?_, ?_, ?_, ?_, ?_, ?_, ?_, ?_, ?_⟩, ?_, hI.sameBase, hJ.os.trans hI.os, hJ.tape.trans hI.tape, hJ.output.trans hI.output, Nat.le_trans hI.size hsz, ?_, ?_⟩⟩
  · intro x blk hx
    rcases hT1 x blk hx with ⟨h1, h2, _⟩ | ⟨h1, h2⟩
    · rw [ρ_T x h1]; exact hJ.sim.some_ _ blk h2
    · rw [ρ_nT x h1]; exact hI.sim.some_ x blk h2
  · intro x blk c hx hc
    rcases hT1 x blk hx with ⟨h1, h2, _⟩ | ⟨h1, h2⟩
    · rw [ρ_T x h1] at hc
      exact (hJ.sim.cells x blk c h2 hc).mono hle2
    · rw [ρ_nT x h1] at hc
      exact ((hI.sim.cells x blk c h2 hc).of_cell fun hpos o => cell_of_heap (keep x blk c h1 h2 hc (.inl hpos)) o).mono hle
  · intro x blk c hx hc hs
    rcases hT1 x blk hx with ⟨h1, h2, _⟩ | ⟨h1, h2⟩
    · rw [ρ_T x h1] at hc; exact hJ.sim.inside x blk c h2 hc hs
    · rw [ρ_nT x h1] at hc; have := hI.sim.inside x blk c h2 hc hs; omega
  · intro x blk c hx hc hr hs
    rcases hT1 x blk hx with ⟨h1, h2, _⟩ | ⟨h1, h2⟩
    · rw [ρ_T x h1] at hc; exact hJ.sim.own x blk c h2 hc hr hs
    · rw [ρ_nT x h1] at hc
      obtain ⟨k1, cs, el, k2, k3⟩ := hI.sim.own x blk c h2 hc hr hs
      exact ⟨k1, cs, el, by rw [keep x blk c h1 h2 hc hs]; exact k2, k3⟩
  · intro x y xb yb c d hx hy hne hc hd hr hs hs'
    rcases hT1 x xb hx with ⟨h1, h2, hrx⟩ | ⟨h1, h2⟩
    · rw [ρ_T x h1] at hc
      rcases hT1 y yb hy with ⟨k1, k2, _⟩ | ⟨k1, k2⟩
      · rw [ρ_T y k1] at hd
        exact hJ.sim.apart x y xb yb c d h2 k2 hne hc hd hr hs hs'
      · rw [ρ_nT y k1] at hd
        exact apartT x xb c y yb d h1 h2 hr hc hs k1 k2 hd hs'
    · rw [ρ_nT x h1] at hc
      rcases hT1 y yb hy with ⟨k1, k2, k3⟩ | ⟨k1, k2⟩
      · rw [ρ_T y k1] at hd
        exact (apartT y yb d x xb c k1 k2 k3 hd hs' h1 h2 hc hs).symm
      · rw [ρ_nT y k1] at hd
        exact hI.sim.apart x y xb yb c d h2 k2 hne hc hd hr hs hs'
  · intro x hx
    obtain ⟨h1, h2⟩ := hT5 x hx
    rw [ρ_nT x h1]; exact hI.sim.dom x h2
  · show ρ.base.heap.size ≤ _
    have := hI.sim.baseLe; omega
  · intro i hi
    have := hJ.sim.old i (by rw [hbase]; exact hi)
    rw [this, hbase]
  · intro x blk c hx hc hr hs
    show ρ.base.heap.size ≤ _
    rcases hT1 x blk hx with ⟨h1, h2, _⟩ | ⟨h1, h2⟩
    · rw [ρ_T x h1] at hc
      have := hJ.sim.above x blk c h2 hc hr hs
      rw [hbase] at this; exact this
    · rw [ρ_nT x h1] at hc; exact hI.sim.above x blk c h2 hc hr hs
  · intro b hb
    rw [ρ_old b (by omega)]; exact hI.agree b hb
  · intro i hi hno
    have hi2 : i < w.heap.size := by have := hI.size; omega
    rw [show w'.heap[i]? = w.heap[i]? from hJ.keep i hi2 fun ho => ?_]
    · exact hI.keep i hi hno
    · obtain ⟨b, blk, c, k1, k2, k3, k4, k5, k6⟩ := owned_of _ ho
      rcases hI.fresh b blk c k2 k4 k3 k5 with h1 | h1
      · omega
      · rw [k6] at h1; exact hno h1
  · intro x blk c hx hc hr hs
    rcases hT1 x blk hx with ⟨h1, h2, _⟩ | ⟨h1, h2⟩
    · rw [ρ_T x h1] at hc
      rcases hJ.fresh x blk c h2 hc hr hs with h3 | h3
      · have h3 : w.heap.size ≤ c.1 := h3
        have := hI.size
        exact .inl (by omega)
      · obtain ⟨b, blk', c', k1, k2, k3, k4, k5, k6⟩ := owned_of _ h3
        rw [← k6]
        exact hI.fresh b blk' c' k2 k4 k3 k5
    · rw [ρ_nT x h1] at hc; exact hI.fresh x blk c h2 hc hr hs
def keepR : List ResultVar → List Nat
  | [] => []
  | .tmp t :: l => t :: keepR l
  | .cell t _ :: l => t :: keepR l
theorem does_of_codeK {β : Type} {P : Program} (hm : P.follows .mixedOrders = true) {f : FuncId} {fn : Func} {c : Code} (hf : P.funcs[f]? = some fn) (hb : fn.body = some c) (hname : (fn.name == "runtime.NumGoroutine") = false)
    {env : Env P} {fuel : Nat} {L : Loops P env.Y} (hL : L.fit c) (hy : ∀ Γ, env.Y Γ) {args : List AV} {hp : Heap} {keep : List Nat} {K : Exit → List AV → Heap → Option β} {r : β}
    (hr : codeK P env hp.length fuel L [] (.code c) (args ++ List.replicate (fn.ntmps - args.length) (.val undef)) hp (fun e t h => gcK hp.length keep t h fun t2 h2 => K e t2 h2) = some r) :
    ∃ e t' h', K e t' h' = some r ∧ hp.length ≤ h'.length ∧ ∀ vs, okExit e = true → resA P t' h' fn.results.toList = some vs → Does P f args hp (resV vs) h' := by
  obtain ⟨e, t0, h0, hk0, hn0, hg0⟩ := codeK_ok hm fuel L [] (.code c) _ _ _ c hL (.inr rfl) (Nat.le_refl _) hr
  obtain ⟨t1, h1, hk, hn1, σ, l, hw, hob⟩ := gcK_ok hk0
  have hg := Runs.weak hg0 hw hob hn1
  refine ⟨e, t1, h1, hk, hn1, fun vs hex hvs => ?_⟩
  intro ρ w cargs hsim hargs
  unfold Invokes
  have hcall : (callFunc f cargs).run P w = .ok (.enter f cargs) w := by
    simp only [callFunc, program, Sem.run_bind, Sem.run, Result.andThen, hf]
    simp only [hname, hb, Option.isNone_some, Bool.false_eq_true, if_false]
    rfl
  rw [hcall]
  simp only
  have hlen := hargs.length
  let Γ : Ctx := ⟨hp.length, ρ, hp, w⟩
  have hI : Inv Γ ρ hp w := by
    refine ⟨hsim, fun _ _ => rfl, rfl, rfl, rfl, rfl, Nat.le_refl _, fun _ _ _ => rfl, fun b blk d hb hd hrw hs => ?_⟩
    refine .inr ⟨b, blk, d, ?_, hb, hrw, hd, hs, rfl⟩
    rcases Nat.lt_or_ge b hp.length with h' | h'
    · exact h'
    · simp [Heap.get, List.getD_eq_getElem?_getD, List.getElem?_eq_none h'] at hb
  have hV : VRs ρ (args ++ List.replicate (fn.ntmps - args.length) (.val undef)) ({ tmps := cargs ++ Array.replicate (fn.ntmps - cargs.size) undef, defers := [] } : Act).tmps.toList := by
    simp only [Array.toList_append, Array.toList_replicate]
    refine hargs.append ?_
    rw [hlen]
    simpa using VRs.replicate (ρ := ρ) (a := .val undef) (v := undef) (by simp [VR]) (fn.ntmps - cargs.size)
  refine calls_of_runs hf hb hg hex rfl (hy _) hI hV fun ρ2 w2 a2 g2 g3 => ?_
  obtain ⟨us, cv, k1, k2, k3⟩ := run_results_list (P := P) g2 g3 hvs
  exact ⟨cv, k1, ρ2, cv, rfl, k3 ρ2 vs k2, g2⟩
def reachF (H : Nat → Ent) : Nat → Nat → List Nat → List Nat
  | 0, _, σ => σ
  | f + 1, i, σ => match σ[i]? with
    | none => σ
    | some b => reachF H f (i + 1) (match H b with
      | .live blk => (match blk.cells with
        | .lit l => blksL l σ
        | _ => σ)
      | _ => σ)
def rwOnly : Ent → Ent
  | .live b => if b.rw = true then .live b else .dead
  | _ => .dead
theorem rwOnly_live {e : Ent} {blk : Blk} (h : rwOnly e = .live blk) : e = .live blk ∧ blk.rw = true := by
  unfold rwOnly at h
  split at h
  · split at h
    · rename_i b hb; injection h with h; subst h; exact ⟨rfl, hb⟩
    · cases h
  · cases h
theorem rwOnly_free {e : Ent} : rwOnly e ≠ .free := by
  unfold rwOnly
  split
  · split <;> simp
  · simp
def isRw : Ent → Bool
  | .live b => b.rw
  | _ => false
def lend (wr : List AV → Bool) : Ent → Ent
  | .live b => .live { b with rw := b.rw && (match b.cells with
    | .lit l => wr l
    | _ => true) }
  | e => e
def partHeap (wr : List AV → Bool) (H : Nat → Ent) (new : Nat) (R : List Nat) : Heap := (List.range new).map fun b => if R.contains b then lend wr (H b) else .dead
theorem lend_live {wr : List AV → Bool} {e : Ent} {blk : Blk} (h : lend wr e = .live blk) : ∃ blk' : Blk, e = .live blk' ∧ blk'.cells = blk.cells ∧ (blk.rw = true → blk' = blk) := by
  cases e with
  | live b =>
    simp only [lend] at h
    injection h with h; subst h
    refine ⟨b, rfl, rfl, fun hr => ?_⟩
    have hr : (b.rw && (match b.cells with
      | .lit l => wr l
      | _ => true)) = true := hr
    rw [hr]
    simp only [Bool.and_eq_true] at hr
    have := hr.1
    cases b; simp at this; rw [this]
  | free => simp [lend] at h
  | dead => simp [lend] at h
theorem lend_free {wr : List AV → Bool} {e : Ent} (h : lend wr e = .free) : e = .free := by
  cases e with
  | live b => simp [lend] at h
  | free => rfl
  | dead => simp [lend] at h
def wbOld (hp h' : Heap) : List Nat → List (Nat × Ent)
  | [] => []
  | b :: l => if isRw (hp.get b) then (b, rwOnly (h'.get b)) :: wbOld hp h' l else wbOld hp h' l
def newsE (h' : Heap) (Z : List Nat) : Nat → Nat → List (Nat × Ent)
  | _, 0 => []
  | k, n + 1 => (k, if Z.contains k then rwOnly (h'.get k) else .dead) :: newsE h' Z (k + 1) n
theorem mem_wbOld {hp h' : Heap} {x : Nat} {e : Ent} : ∀ {l : List Nat}, (x, e) ∈ wbOld hp h' l → x ∈ l ∧ isRw (hp.get x) = true ∧ e = rwOnly (h'.get x)
  | [], h => by simp [wbOld] at h
  | b :: l, h => by
    simp only [wbOld] at h
    split at h
    · rename_i hb
      rcases List.mem_cons.1 h with h | h
      · injection h with h1 h2; subst h1; exact ⟨List.mem_cons_self .., hb, h2⟩
      · obtain ⟨h1, h2⟩ := mem_wbOld h; exact ⟨List.mem_cons_of_mem _ h1, h2⟩
    · obtain ⟨h1, h2⟩ := mem_wbOld h; exact ⟨List.mem_cons_of_mem _ h1, h2⟩
theorem wbOld_mem {hp h' : Heap} {x : Nat} (hx : isRw (hp.get x) = true) : ∀ {l : List Nat}, x ∈ l → (x, rwOnly (h'.get x)) ∈ wbOld hp h' l
  | [], h => by simp at h
  | b :: l, h => by
    simp only [wbOld]
    rcases List.mem_cons.1 h with rfl | h
    · rw [if_pos hx]; exact List.mem_cons_self ..
    · have := wbOld_mem (hp := hp) (h' := h') hx h
      split
      · exact List.mem_cons_of_mem _ this
      · exact this
theorem mem_newsE {h' : Heap} {Z : List Nat} {x : Nat} {e : Ent} : ∀ {k n : Nat}, (x, e) ∈ newsE h' Z k n → k ≤ x ∧ x < k + n ∧ (e = rwOnly (h'.get x) ∨ e = .dead)
  | k, 0, h => by simp [newsE] at h
  | k, n + 1, h => by
    simp only [newsE] at h
    rcases List.mem_cons.1 h with h | h
    · injection h with h1 h2; subst h1
      refine ⟨Nat.le_refl _, by omega, ?_⟩
      rw [h2]; split
      · exact .inl rfl
      · exact .inr rfl
    · obtain ⟨h1, h2, h3⟩ := mem_newsE h
      exact ⟨by omega, by omega, h3⟩
theorem newsE_mem {h' : Heap} {Z : List Nat} {x : Nat} : ∀ {k n : Nat}, k ≤ x → x < k + n → ∃ e, (x, e) ∈ newsE h' Z k n
  | k, 0, h1, h2 => by omega
  | k, n + 1, h1, h2 => by
    simp only [newsE]
    by_cases hx : x = k
    · subst hx; exact ⟨_, List.mem_cons_self ..⟩
    · obtain ⟨e, he⟩ := newsE_mem (h' := h') (Z := Z) (k := k + 1) (n := n) (x := x) (by omega) (by omega)
      exact ⟨e, List.mem_cons_of_mem _ he⟩
def outE (hp h' : Heap) (R Z : List Nat) (v : AV) : Eff := { rb := R, wb := wbOld hp h' R ++ newsE h' Z hp.length (h'.length - hp.length), nw := h'.length - hp.length, val := v }
theorem partHeap_get {wr : List AV → Bool} {H : Nat → Ent} {new : Nat} {R : List Nat} {b : Nat} : (partHeap wr H new R).get b = if b < new then (if R.contains b then lend wr (H b) else .dead) else .free := by
  unfold partHeap Heap.get
  rw [List.getD_eq_getElem?_getD, List.getElem?_map]
  by_cases hb : b < new
  · rw [if_pos hb, List.getElem?_range hb]; rfl
  · rw [if_neg hb, List.getElem?_eq_none (by simpa using hb)]; rfl
theorem out_of_inv {wr : List AV → Bool} {H : Nat → Ent} {new : Nat} {R Z : List Nat} {v : AV} {h' : Heap} (hents : okEnts new (partHeap wr H new R) = true) (hn' : new ≤ h'.length)
    {Γ : Ctx} {ρ : Ren} {h : Heap} {w : World} (hI : Inv Γ ρ h w) (hH : ∀ b ∈ R, h.get b = H b) (hn : Γ.n0 ≤ new) (hfree : ∀ x, new ≤ x → x < new + (h'.length - new) → h.get x = .free) :
    Sim (ρ.below new) (partHeap wr H new R) w ∧ ∀ (ρ2 : Ren) (w' : World), Inv ⟨new, ρ.below new, partHeap wr H new R, w⟩ ρ2 h' w' → ∃ ρ3, ρ.le ρ3 ∧ ρ2.le ρ3 ∧ Inv Γ ρ3 (h.upds (outE (partHeap wr H new R) h' R Z v).wb) w' := by
  generalize hpe : partHeap wr H new R = hp at *
  have hlen : hp.length = new := by rw [← hpe]; simp [partHeap]
  have hget : ∀ b, hp.get b = if b < new then (if R.contains b then lend wr (H b) else .dead) else .free := fun b => by rw [← hpe]; exact partHeap_get
  subst hlen
  have hsub : ∀ b blk, hp.get b = .live blk → (∃ blk' : Blk, h.get b = .live blk' ∧ blk'.cells = blk.cells ∧ (blk.rw = true → blk' = blk)) ∧ b ∈ R := fun b blk hb => by
    rw [hget] at hb
    split at hb
    · split at hb
      · rename_i hc
        have hc : b ∈ R := by simpa using hc
        rw [hH b hc]; exact ⟨lend_live hb, hc⟩
      · cases hb
    · cases hb
  have hfr : ∀ b, b < hp.length → hp.get b = .free → h.get b = .free := fun b hb hb' => by
    rw [hget, if_pos hb] at hb'
    split at hb'
    · rename_i hc
      rw [hH b (by have : b ∈ R := by simpa using hc
                   exact this)]; exact lend_free hb'
    · cases hb'
  have hsim := hI.sim.below (hp := hp) (fun b blk hb => (hsub b blk hb).1) hfr hents
  refine ⟨hsim, fun ρ2 w' hJ => ?_⟩
  let T : Nat → Prop := fun x => isRw (hp.get x) = true ∨ (hp.length ≤ x ∧ x < h'.length)
  have hfree : ∀ x, hp.length ≤ x → x < hp.length + (h'.length - hp.length) → h.get x = .free := hfree
  have rw_lt : ∀ x, isRw (hp.get x) = true → x < hp.length ∧ x ∈ R := fun x hx => by
    cases hq : hp.get x with
    | live blk =>
      refine ⟨?_, (hsub x blk hq).2⟩
      rcases Nat.lt_or_ge x hp.length with h9 | h9
      · exact h9
      · rw [hget, if_neg (by omega)] at hq; cases hq
    | free => rw [hq] at hx; cases hx
    | dead => rw [hq] at hx; cases hx
  have cases_ := fun x => get_upds (wbOld hp h' R ++ newsE h' Z hp.length (h'.length - hp.length)) h x
  have inT : ∀ x e, (x, e) ∈ wbOld hp h' R ++ newsE h' Z hp.length (h'.length - hp.length) → T x ∧ (e = rwOnly (h'.get x) ∨ e = .dead) := fun x e hm => by
    rcases List.mem_append.1 hm with hm | hm
    · obtain ⟨h1, h2, h3⟩ := mem_wbOld hm; exact ⟨.inl h2, .inl h3⟩
    · obtain ⟨h1, h2, h3⟩ := mem_newsE hm; exact ⟨.inr ⟨h1, by omega⟩, h3⟩
  have notT : ∀ x, (∀ e, (x, e) ∉ wbOld hp h' R ++ newsE h' Z hp.length (h'.length - hp.length)) → ¬ T x := fun x hno hT => by
    rcases hT with hT | ⟨h1, h2⟩
    · exact hno _ (List.mem_append.2 (.inl (wbOld_mem hT (rw_lt x hT).2)))
    · obtain ⟨e, he⟩ := newsE_mem (h' := h') (Z := Z) (k := hp.length) (n := h'.length - hp.length) (x := x) h1 (by omega)
      exact hno e (List.mem_append.2 (.inr he))
  obtain ⟨ρ3, k1, k2, k3⟩ := after_call hI (hp := hp) (fun b blk hb => (hsub b blk hb).1) hJ hn (nw := h'.length - hp.length) (by omega) hfree
    (g := h.upds (wbOld hp h' R ++ newsE h' Z hp.length (h'.length - hp.length))) (T := T)
    (fun x blk hx => by
      rcases cases_ x with ⟨e, h1, h2⟩ | ⟨h1, h2⟩
      · obtain ⟨h3, h4⟩ := inT x e h1
        rw [h2] at hx
        rcases h4 with h4 | h4
        · rw [h4] at hx; exact .inl ⟨h3, rwOnly_live hx⟩
        · rw [h4] at hx; cases hx
      · rw [h2] at hx; exact .inr ⟨notT x h1, hx⟩)
    (fun x h1 h2 => .inr ⟨h1, by omega⟩)
    (fun x blk h1 h2 => .inl (by rw [h1]; exact h2))
    (fun x hT => by
      rcases hT with hT | hT
      · have := (rw_lt x hT).1; omega
      · omega)
    (fun x hx => by
      rcases cases_ x with ⟨e, h1, h2⟩ | ⟨h1, h2⟩
      · obtain ⟨h3, h4⟩ := inT x e h1
        rw [h2] at hx
        rcases h4 with h4 | h4
        · rw [h4] at hx; exact absurd hx rwOnly_free
        · rw [h4] at hx; cases hx
      · rw [h2] at hx; exact ⟨notT x h1, hx⟩)
  exact ⟨ρ3, k1, k2, k3⟩
theorem callOK_of_does {P : Program} {wr : List AV → Bool} {f : FuncId} {args : List AV} {H : Nat → Ent} {new : Nat} {R Z : List Nat} {v : AV} {h' : Heap} (hargs : okL new args = true) (hents : okEnts new (partHeap wr H new R) = true) (hn' : new ≤ h'.length) (hd : Does P f args (partHeap wr H new R) v h') :
    CallOK P f args H new (outE (partHeap wr H new R) h' R Z v) := by
  intro Γ ρ h w cargs hI hV hH hn hfree
  have hlen : (partHeap wr H new R).length = new := by simp [partHeap]
  have hfree : ∀ x, new ≤ x → x < new + (h'.length - (partHeap wr H new R).length) → h.get x = .free := hfree
  rw [hlen] at hfree
  obtain ⟨hsim, hout⟩ := out_of_inv (Z := Z) (v := v) hents hn' hI hH hn hfree
  refine (hd _ w cargs hsim (VRs.below _ _ hargs hV)).mono fun e w' ⟨ρ2, cv, he, hvv, hJ⟩ => ?_
  rw [hlen] at hJ
  obtain ⟨ρ3, k1, k2, k3⟩ := hout ρ2 w' hJ
  exact ⟨ρ3, cv, he, k1, VR.mono k2 _ _ hvv, k3⟩
def inlS {β : Type} (wr : List AV → Bool) (P : Program) (env : Env P) (fuel : Nat) (L : Loops P env.Y) (fn : Func) (c : Code) (H : Nat → Ent) (new : Nat) (args : List AV) (K : Eff → Option β) : Option β :=
  forceL (reachF H 1000 0 (blksL args [])) fun R =>
  forceEs (partHeap wr H new R) fun hp =>
  match okL new args && okEnts new hp with
  | true => codeK P env new fuel L [] (.code c) (args ++ List.replicate (fn.ntmps - args.length) (.val undef)) hp fun e t h' => gcK new (keepR fn.results.toList) t h' fun t h' => match okExit e with
    | true => (match resA P t h' fn.results.toList with
      | some vs => K (outE hp h' R (reachF h'.get 1000 0 (blksL vs R)) (resV vs))
      | none => none)
    | false => none
  | false => none
def inlSumm {P : Program} (wr : List AV → Bool) (hm : P.follows .mixedOrders = true) (f : FuncId) (fn : Func) (c : Code) (hf : P.funcs[f]? = some fn) (hb : fn.body = some c) (hname : (fn.name == "runtime.NumGoroutine") = false) (env : Env P) (fuel : Nat) (L : Loops P env.Y) (hL : L.fit c) (hy : ∀ Γ, env.Y Γ := by exact fun _ => True.intro) : Summ P where
  f := f
  S := fun H new args K => inlS wr P env fuel L fn c H new args K
  ok := by
    intro β H new args K r hs
    unfold inlS at hs
    simp only [forceL_eq, forceEs_eq] at hs
    split at hs
    case h_2 => cases hs
    rename_i hok
    simp only [Bool.and_eq_true] at hok
    have hlen : (partHeap wr H new (reachF H 1000 0 (blksL args []))).length = new := by simp [partHeap]
    obtain ⟨e, t', h', hk, hn', hd⟩ := does_of_codeK hm hf hb hname hL hy (hp := partHeap wr H new (reachF H 1000 0 (blksL args []))) (by rw [hlen]; exact hs)
    split at hk
    case h_2 => cases hk
    rename_i hex
    split at hk
    case h_2 => cases hk
    rename_i vs hvs
    exact ⟨_, hk, callOK_of_does hok.1 hok.2 (by rw [hlen] at hn'; exact hn') (hd vs hex hvs)⟩
def onlyM : List AV → Bool
  | [.val (.bool _)] => true
  | _ => false
def allRw : List AV → Bool := fun _ => true
end Go.Ab
namespace Go.Ab
def mEnt (s : Sh) (m : s.T) : Ent := .live { cells := .lit ((s.enc m).map .val), rw := true }
def Acts (P : Program) (f : FuncId) (s : Sh) (ss rs : List Sh) (law : s.T → Sh.Ts ss → Option (s.T × Sh.Ts rs)) : Prop :=
  ∀ m x m' y, law m x = some (m', y) → Does P f (.ptr (Sh.nes ss) 0 :: Sh.args ss x 0) (Sh.entss ss x ++ [mEnt s m]) (outV rs y 0) (Sh.entss ss x ++ [mEnt s m'])
def outM {P : Program} (fn : Func) (s : Sh) (n : Nat) (rs : List Sh) (e : Exit) (t : List AV) (h : Heap) : Option (s.T × Sh.Ts rs) :=
  match okExit e with
  | true => (match resA P t h fn.results.toList with
    | some vs => (match viewArgs h.get rs vs with
      | some (y, _, c) => (match h.get n with
        | .live { cells := .lit cs, rw := true, grow := none } => (match s.dec cs with
          | some (m', []) => ifK c (some (m', y))
          | _ => none)
        | _ => none)
      | none => none)
    | none => none)
  | false => none
def codeLawM (P : Program) (env : Env P) (fuel : Nat) (L : Loops P env.Y) (fn : Func) (c : Code) (s : Sh) (ss rs : List Sh) (m : s.T) (x : Sh.Ts ss) : Option (s.T × Sh.Ts rs) :=
  codeK P env (Sh.nes ss + 1) fuel L [] (.code c) (.ptr (Sh.nes ss) 0 :: Sh.args ss x 0 ++ List.replicate (fn.ntmps - (ss.length + 1)) (.val undef)) (Sh.entss ss x ++ [mEnt s m]) fun e t h => outM (P := P) fn s (Sh.nes ss) rs e t h
theorem get_snoc (l : List Ent) (e : Ent) (b : Nat) : Heap.get (l ++ [e]) b = if b < l.length then Heap.get l b else if b = l.length then e else .free := by
  simp only [Heap.get, List.getD_eq_getElem?_getD]
  by_cases h1 : b < l.length
  · rw [if_pos h1, List.getElem?_append_left h1]
  · rw [if_neg h1, List.getElem?_append_right (by omega)]
    by_cases h2 : b = l.length
    · rw [if_pos h2]; subst h2; simp
    · rw [if_neg h2, List.getElem?_eq_none (by simp; omega)]; rfl
theorem vals_free {ρ ρ' : Ren} {w : World} {cb co : Nat} {l : List Value} (h : CellsAt ρ w cb co (.lit (l.map .val))) : CellsAt ρ' w cb co (.lit (l.map .val)) := by
  intro i v hi
  obtain ⟨cv, h1, h2⟩ := h i v hi
  refine ⟨cv, h1, ?_⟩
  simp only [List.getElem?_map, Option.map_eq_some_iff] at hi
  obtain ⟨u, _, rfl⟩ := hi
  simpa [VR] using h2
theorem settleM {ρ ρ2 : Ren} {es : List Ent} {s : Sh} {m m' : s.T} (hf : s.flat = true) {h1 : Heap} {w w2 : World} (hS : Sim ρ (es ++ [mEnt s m]) w) (hro : ∀ b blk, Heap.get es b = .live blk → blk.rw = false) (hI : Inv ⟨es.length + 1, ρ, es ++ [mEnt s m], w⟩ ρ2 h1 w2)
    (hm : h1.get es.length = mEnt s m') : Inv ⟨es.length + 1, ρ, es ++ [mEnt s m], w⟩ ρ (es ++ [mEnt s m']) w2 := by
  have getN : Heap.get (es ++ [mEnt s m]) es.length = mEnt s m := by rw [get_snoc]; simp
  have agr : ρ2 es.length = ρ es.length := hI.agree es.length (Nat.lt_succ_self _)
  have hbase : ρ2.base = ρ.base := hI.sameBase
  have hsz : w.heap.size ≤ w2.heap.size := hI.size
  have len : ((s.enc m).map AV.val).length = ((s.enc m').map AV.val).length := by simp [enc_length s m hf, enc_length s m' hf]
  have sol : ∀ c, Blk.solid { cells := .lit ((s.enc m').map .val), rw := true } c → Blk.solid { cells := .lit ((s.enc m).map .val), rw := true } c := fun c hs => by
    unfold Blk.solid at *
    simp only [Cells.len] at *
    rw [len]; exact hs
  have ent : ∀ b blk, Heap.get (es ++ [mEnt s m']) b = .live blk → (b < es.length ∧ Heap.get es b = .live blk ∧ Heap.get (es ++ [mEnt s m]) b = .live blk ∧ blk.rw = false) ∨ (b = es.length ∧ blk = { cells := .lit ((s.enc m').map .val), rw := true }) := fun b blk hb => by
    rw [get_snoc] at hb
    split at hb
    · rename_i hl
      exact .inl ⟨hl, hb, by rw [get_snoc, if_pos hl]; exact hb, hro b blk hb⟩
    · split at hb
      · rename_i h2
        unfold mEnt at hb
        injection hb with hb
        exact .inr ⟨h2, hb.symm⟩
      · cases hb
  have owned_of : ∀ i, Ctx.owned ⟨es.length + 1, ρ, es ++ [mEnt s m], w⟩ i → ∃ c, ρ es.length = some c ∧ Blk.solid { cells := .lit ((s.enc m).map .val), rw := true } c ∧ c.1 = i := by
    rintro i ⟨b, blk, c, hb1, hb2, hb3, hb4, hb5, hb6⟩
    have hb2 : Heap.get (es ++ [mEnt s m]) b = .live blk := hb2
    rw [get_snoc] at hb2
    split at hb2
    · rw [hro b blk hb2] at hb3; cases hb3
    · split at hb2
      · rename_i h2
        unfold mEnt at hb2
        injection hb2 with hb2
        subst hb2
        have hb4 : ρ b = some c := hb4
        rw [h2] at hb4
        exact ⟨c, hb4, hb5, hb6⟩
      · cases hb2
  have keepRo : ∀ b blk c, Heap.get (es ++ [mEnt s m]) b = .live blk → b < es.length → ρ b = some c → blk.solid c → w2.heap[c.1]? = w.heap[c.1]? := fun b blk c hb hlt hc hs => by
    refine hI.keep c.1 (hS.inside b blk c hb hc hs) fun ho => ?_
    obtain ⟨c', k1, k2, k3⟩ := owned_of _ ho
    exact hS.apart es.length b _ blk c' c (by rw [getN]; rfl) hb (by omega) k1 hc rfl k2 hs k3
  have simN : ∀ c, ρ es.length = some c → CellsAt ρ w2 c.1 c.2.1 (.lit ((s.enc m').map .val)) := fun c hc => by
    have := hI.sim.cells es.length _ c (by rw [hm]; rfl) (by rw [agr]; exact hc)
    exact vals_free this
  refine ⟨⟨fun b blk hb => ?_, fun b blk c hb hc => ?_, fun b blk c hb hc hs => ?_, fun b blk c hb hc hr hs => ?_, fun b b' blk blk' c c' hb hb' hne hc hc' hr hs hs' => ?_, fun b hb => ?_, ?_, fun i hi => ?_, fun b blk c hb hc hr hs => ?_⟩, fun _ _ => rfl, rfl, hI.os, hI.tape, hI.output, hI.size, hI.keep, fun b blk c hb hc hr hs => ?_⟩
  · rcases ent b blk hb with ⟨h2, h3, h4, h5⟩ | ⟨h2, h3⟩
    · exact hS.some_ b blk h4
    · subst h2; exact hS.some_ _ _ (by rw [getN]; rfl)
  · rcases ent b blk hb with ⟨h2, h3, h4, h5⟩ | ⟨h2, h3⟩
    · exact (hS.cells b blk c h4 hc).of_cell fun hpos o => cell_of_heap (keepRo b blk c h4 h2 hc (.inl hpos)) o
    · subst h2; subst h3; exact simN c hc
  · rcases ent b blk hb with ⟨h2, h3, h4, h5⟩ | ⟨h2, h3⟩
    · have := hS.inside b blk c h4 hc hs; omega
    · subst h2; subst h3
      exact hI.sim.inside es.length _ c (by rw [hm]; rfl) (by rw [agr]; exact hc) hs
  · rcases ent b blk hb with ⟨h2, h3, h4, h5⟩ | ⟨h2, h3⟩
    · rw [h5] at hr; cases hr
    · subst h2; subst h3
      exact hI.sim.own es.length _ c (by rw [hm]; rfl) (by rw [agr]; exact hc) rfl hs
  · rcases ent b blk hb with ⟨h2, h3, h4, h5⟩ | ⟨h2, h3⟩
    · rw [h5] at hr; cases hr
    · subst h2; subst h3
      rcases ent b' blk' hb' with ⟨k2, k3, k4, k5⟩ | ⟨k2, k3⟩
      · exact hS.apart es.length b' _ blk' c c' (by rw [getN]; rfl) k4 hne hc hc' rfl (sol c hs) hs'
      · exact absurd k2.symm hne
  · refine hS.dom b ?_
    rw [get_snoc] at hb ⊢
    split at hb
    · rename_i hl; rw [if_pos hl]; exact hb
    · rename_i hl
      rw [if_neg hl]
      split at hb
      · cases hb
      · rename_i h2; rw [if_neg h2]
  · have := hS.baseLe; omega
  · have := hI.sim.old i (by rw [hbase]; exact hi)
    rw [this, hbase]
  · rcases ent b blk hb with ⟨h2, h3, h4, h5⟩ | ⟨h2, h3⟩
    · rw [h5] at hr; cases hr
    · subst h2; subst h3
      exact hS.above es.length _ c (by rw [getN]; rfl) hc rfl (sol c hs)
  · rcases ent b blk hb with ⟨h2, h3, h4, h5⟩ | ⟨h2, h3⟩
    · rw [h5] at hr; cases hr
    · subst h2; subst h3
      exact .inr ⟨es.length, _, c, Nat.lt_succ_self _, getN, rfl, hc, sol c hs, rfl⟩
theorem Acts.of_code {P : Program} (hm : P.follows .mixedOrders = true) {f : FuncId} {fn : Func} {c : Code} (hf : P.funcs[f]? = some fn) (hb : fn.body = some c) (hname : (fn.name == "runtime.NumGoroutine") = false)
    (env : Env P) (fuel : Nat) {L : Loops P env.Y} (hL : L.fit c) {s : Sh} (hs : s.flat = true) {ss rs : List Sh} (hrs : Sh.nes rs = 0) (hy : ∀ Γ, env.Y Γ := by exact fun _ => True.intro) : Acts P f s ss rs (codeLawM P env fuel L fn c s ss rs) := by
  intro m x m' y hxy ρ w cargs hsim hargs
  unfold codeLawM at hxy
  have hlen0 := entss_length ss x
  obtain ⟨e, t1, h1, hk, hn1, hg⟩ := codeK_ok hm fuel L [] (.code c) _ _ _ c hL (.inr rfl) (by simp [hlen0]) hxy
  unfold outM at hk
  split at hk
  case h_2 => cases hk
  rename_i hex
  split at hk
  case h_2 => cases hk
  rename_i vs hvs
  split at hk
  case h_2 => cases hk
  rename_i y' bs cc hview
  split at hk
  case h_2 => cases hk
  rename_i cs hget
  split at hk
  case h_2 => cases hk
  rename_i m2 hdec
  obtain ⟨hcc, hk⟩ := ifK_some hk
  injection hk with hk; injection hk with hk1 hk2; subst hk1; subst hk2
  unfold Invokes
  have hcall : (callFunc f cargs).run P w = .ok (.enter f cargs) w := by
    simp only [callFunc, program, Sem.run_bind, Sem.run, Result.andThen, hf]
    simp only [hname, hb, Option.isNone_some, Bool.false_eq_true, if_false]
    rfl
  rw [hcall]
  simp only
  have hlen := hargs.length
  simp only [List.length_cons, args_length] at hlen
  have hro : ∀ b blk, Heap.get (Sh.entss ss x) b = .live blk → blk.rw = false := fun b blk hb => entss_norw hb
  have hI : Inv ⟨(Sh.entss ss x).length + 1, ρ, Sh.entss ss x ++ [mEnt s m], w⟩ ρ (Sh.entss ss x ++ [mEnt s m]) w := by
    refine ⟨hsim, fun _ _ => rfl, rfl, rfl, rfl, rfl, Nat.le_refl _, fun _ _ _ => rfl, fun b blk d hb hd hrw hs => ?_⟩
    refine .inr ⟨b, blk, d, ?_, hb, hrw, hd, hs, rfl⟩
    rw [get_snoc] at hb
    show b < _ + 1
    split at hb
    · omega
    · split at hb
      · omega
      · cases hb
  have hV : VRs ρ (.ptr (Sh.nes ss) 0 :: Sh.args ss x 0 ++ List.replicate (fn.ntmps - (ss.length + 1)) (.val undef)) ({ tmps := cargs ++ Array.replicate (fn.ntmps - cargs.size) undef, defers := [] } : Act).tmps.toList := by
    simp only [Array.toList_append, Array.toList_replicate]
    refine hargs.append ?_
    rw [hlen]
    simpa using VRs.replicate (ρ := ρ) (a := .val undef) (v := undef) (by simp [VR]) (fn.ntmps - cargs.size)
  have hΓ : (Sh.entss ss x).length + 1 = Sh.nes ss + 1 := by omega
  refine calls_of_runs hf hb hg hex hΓ (hy _) hI hV fun ρ2 w2 a2 g2 g3 => ?_
  obtain ⟨us, cv, k1, k2, k3⟩ := run_results_list (P := P) g2 g3 hvs
  have hva := viewArgs_ok (Q := fun _ => True) g2.sim rs vs us k2 y' bs cc hview (fun b _ => rfl) (fun _ _ => trivial) hcc
  have hout : VR ρ (outV rs y' 0) cv := by
    obtain ⟨c0, hc0, hvv⟩ := hva
    have : c0 = [] := List.length_eq_zero_iff.1 (by rw [hc0, hrs])
    subst this
    refine k3 ρ _ ?_
    have := (hvv ⟨ρ.f, ρ2.base⟩ 0 rfl (fun i d hi => by simp at hi)).1
    exact args_shift rs y' 0 _ (fun k hk => by omega) us this
  obtain ⟨hfl, hcs⟩ := dec_ok s cs m2 [] hdec
  rw [List.append_nil] at hcs
  have hset := settleM hs hsim hro g2 (m' := m2) (by rw [hlen0, hget, hcs]; rfl)
  have hfin : ∃ ρ' cv', cv = cv' ∧ VR ρ' (outV rs y' 0) cv' ∧ Inv ⟨(Sh.entss ss x ++ [mEnt s m]).length, ρ, Sh.entss ss x ++ [mEnt s m], w⟩ ρ' (Sh.entss ss x ++ [mEnt s m2]) w2 :=
    ⟨ρ, cv, rfl, hout, by rw [List.length_append]; exact hset⟩
  obtain ⟨ρ', cv', h7, h8, h9⟩ := hfin
  subst h7
  exact ⟨cv, k1, ρ', cv, rfl, h8, h9⟩
theorem Acts.to {P : Program} {f : FuncId} {s : Sh} {ss rs : List Sh} {law law' : s.T → Sh.Ts ss → Option (s.T × Sh.Ts rs)} (h : Acts P f s ss rs law) (he : ∀ m x, law m x = law' m x) : Acts P f s ss rs law' := fun m x m' y hxy => h m x m' y (by rw [he]; exact hxy)
def actsS {P : Program} {β : Type} (s : Sh) (ss rs : List Sh) (law : s.T → Sh.Ts ss → Option (s.T × Sh.Ts rs)) (H : Nat → Ent) (new : Nat) (args : List AV) (K : Eff → Option β) : Option β :=
  match args with
  | .ptr b 0 :: rest => (match H b with
    | .live { cells := .lit cs, rw := true, grow := none } => (match s.dec cs with
      | some (m, []) => (match viewArgs H ss rest with
        | some (x, bs, c) => (match bs.contains b with
          | true => none
          | false => ifK c ((law m x).bind fun r => K { rb := b :: bs, wb := [(b, mEnt s r.1)], val := outV rs r.2 0 }))
        | none => none)
      | _ => none)
    | _ => none)
  | _ => none
theorem after_mut {Γ : Ctx} {ρ : Ren} {h : Heap} {w : World} (hI : Inv Γ ρ h w) {s : Sh} (hf : s.flat = true) {b : Nat} {m m' : s.T} (hb : h.get b = mEnt s m) {es : List Ent} (hro : ∀ i blk, Heap.get es i = .live blk → blk.rw = false) {ρg ρg' : Ren} (hρ : ρg es.length = ρ b) (hgb : ρg.base = ρ.base) {w' : World}
    (hJ : Inv ⟨(es ++ [mEnt s m]).length, ρg, es ++ [mEnt s m], w⟩ ρg' (es ++ [mEnt s m']) w') : Inv Γ ρ (h.upd b (mEnt s m')) w' := by
  have getN : ∀ m, Heap.get (es ++ [mEnt s m]) es.length = mEnt s m := fun m => by rw [get_snoc]; simp
  have agr : ρg' es.length = ρ b := by rw [← hρ]; exact hJ.agree es.length (by simp)
  have hsz : w.heap.size ≤ w'.heap.size := hJ.size
  have len : ((s.enc m).map AV.val).length = ((s.enc m').map AV.val).length := by simp [enc_length s m hf, enc_length s m' hf]
  have sol : ∀ c, Blk.solid { cells := .lit ((s.enc m').map .val), rw := true } c → Blk.solid { cells := .lit ((s.enc m).map .val), rw := true } c := fun c hs => by
    unfold Blk.solid at *
    simp only [Cells.len] at *
    rw [len]; exact hs
  have ent : ∀ x blk, (h.upd b (mEnt s m')).get x = .live blk → (x ≠ b ∧ h.get x = .live blk) ∨ (x = b ∧ blk = { cells := .lit ((s.enc m').map .val), rw := true }) := fun x blk hx => by
    rw [Heap.get_upd] at hx
    by_cases hxb : x = b
    · rw [if_pos hxb] at hx
      unfold mEnt at hx
      injection hx with hx
      exact .inr ⟨hxb, hx.symm⟩
    · rw [if_neg hxb] at hx; exact .inl ⟨hxb, hx⟩
  have owned_of : ∀ i, Ctx.owned ⟨(es ++ [mEnt s m]).length, ρg, es ++ [mEnt s m], w⟩ i → ∃ c, ρ b = some c ∧ Blk.solid { cells := .lit ((s.enc m).map .val), rw := true } c ∧ c.1 = i := by
    rintro i ⟨k, blk, c, hb1, hb2, hb3, hb4, hb5, hb6⟩
    have hb2 : Heap.get (es ++ [mEnt s m]) k = .live blk := hb2
    rw [get_snoc] at hb2
    split at hb2
    · rw [hro k blk hb2] at hb3; cases hb3
    · split at hb2
      · rename_i h2
        unfold mEnt at hb2
        injection hb2 with hb2
        subst hb2
        have hb4 : ρg k = some c := hb4
        rw [h2, hρ] at hb4
        exact ⟨c, hb4, hb5, hb6⟩
      · cases hb2
  have keep : ∀ y yb d, y ≠ b → h.get y = .live yb → ρ y = some d → yb.solid d → w'.heap[d.1]? = w.heap[d.1]? := fun y yb d hy hyb hd hs => by
    refine hJ.keep d.1 (hI.sim.inside y yb d hyb hd hs) fun ho => ?_
    obtain ⟨c, k1, k2, k3⟩ := owned_of _ ho
    exact hI.sim.apart b y _ yb c d (by rw [hb]; rfl) hyb (Ne.symm hy) k1 hd rfl k2 hs k3
  refine ⟨⟨?_, ?_, ?_, ?_, ?_, ?_, ?_, ?_, ?_⟩, hI.agree, hI.sameBase, hJ.os.trans hI.os, hJ.tape.trans hI.tape, hJ.output.trans hI.output, Nat.le_trans hI.size hsz, ?_, ?_⟩
  · intro x blk hx
    rcases ent x blk hx with ⟨h1, h2⟩ | ⟨h1, h2⟩
    · exact hI.sim.some_ x blk h2
    · rw [h1]; exact hI.sim.some_ b _ (by rw [hb]; rfl)
  · intro x blk c hx hc
    rcases ent x blk hx with ⟨h1, h2⟩ | ⟨h1, h2⟩
    · exact (hI.sim.cells x blk c h2 hc).of_cell fun hpos o => cell_of_heap (keep x blk c h1 h2 hc (.inl hpos)) o
    · subst h1; subst h2
      exact vals_free (hJ.sim.cells es.length _ c (by rw [getN]; rfl) (by rw [agr]; exact hc))
  · intro x blk c hx hc hs
    rcases ent x blk hx with ⟨h1, h2⟩ | ⟨h1, h2⟩
    · have := hI.sim.inside x blk c h2 hc hs; omega
    · subst h1; subst h2
      exact hJ.sim.inside es.length _ c (by rw [getN]; rfl) (by rw [agr]; exact hc) hs
  · intro x blk c hx hc hr hs
    rcases ent x blk hx with ⟨h1, h2⟩ | ⟨h1, h2⟩
    · obtain ⟨k1, cs, el, k2, k3⟩ := hI.sim.own x blk c h2 hc hr hs
      exact ⟨k1, cs, el, by rw [keep x blk c h1 h2 hc hs]; exact k2, k3⟩
    · subst h1; subst h2
      exact hJ.sim.own es.length _ c (by rw [getN]; rfl) (by rw [agr]; exact hc) rfl hs
  · intro x y xb yb c d hx hy hne hc hd hr hs hs'
    rcases ent x xb hx with ⟨h1, h2⟩ | ⟨h1, h2⟩
    · rcases ent y yb hy with ⟨k1, k2⟩ | ⟨k1, k2⟩
      · exact hI.sim.apart x y xb yb c d h2 k2 hne hc hd hr hs hs'
      · subst k1; subst k2
        exact (hI.sim.apart y x _ xb d c (by rw [hb]; rfl) h2 (Ne.symm hne) hd hc rfl (sol d hs') hs).symm
    · subst h1; subst h2
      rcases ent y yb hy with ⟨k1, k2⟩ | ⟨k1, k2⟩
      · exact hI.sim.apart x y _ yb c d (by rw [hb]; rfl) k2 hne hc hd rfl (sol c hs) hs'
      · exact absurd k1.symm hne
  · intro x hx
    rw [Heap.get_upd] at hx
    split at hx
    · cases hx
    · exact hI.sim.dom x hx
  · have := hI.sim.baseLe; omega
  · intro i hi
    have h1 := hJ.sim.old i (by rw [show ρg'.base = ρg.base from hJ.sameBase, hgb]; exact hi)
    rw [h1, show ρg'.base = ρg.base from hJ.sameBase, hgb]
  · intro x blk c hx hc hr hs
    rcases ent x blk hx with ⟨h1, h2⟩ | ⟨h1, h2⟩
    · exact hI.sim.above x blk c h2 hc hr hs
    · subst h1; subst h2
      exact hI.sim.above x _ c (by rw [hb]; rfl) hc rfl (sol c hs)
  · intro i hi hno
    have hi2 : i < w.heap.size := by have := hI.size; omega
    rw [show w'.heap[i]? = w.heap[i]? from hJ.keep i hi2 fun ho => ?_]
    · exact hI.keep i hi hno
    · obtain ⟨c, k1, k2, k3⟩ := owned_of _ ho
      rcases hI.fresh b _ c (by rw [hb]; rfl) k1 rfl k2 with h1 | h1
      · omega
      · rw [k3] at h1; exact hno h1
  · intro x blk c hx hc hr hs
    rcases ent x blk hx with ⟨h1, h2⟩ | ⟨h1, h2⟩
    · exact hI.fresh x blk c h2 hc hr hs
    · subst h1; subst h2
      exact hI.fresh x _ c (by rw [hb]; rfl) hc rfl (sol c hs)
def Acts.summ {P : Program} {f : FuncId} {s : Sh} {ss rs : List Sh} {law : s.T → Sh.Ts ss → Option (s.T × Sh.Ts rs)} (hr : Acts P f s ss rs law) (hrs : Sh.nes rs = 0) : Summ P where
  f := f
  S := fun H new args K => actsS (P := P) s ss rs law H new args K
  ok := by
    intro β H new args K r hs
    unfold actsS at hs
    split at hs
    case h_2 => cases hs
    rename_i b rest
    split at hs
    case h_2 => cases hs
    rename_i cs hHb
    split at hs
    case h_2 => cases hs
    rename_i m hdec
    split at hs
    case h_2 => cases hs
    rename_i x bs c hv
    split at hs
    · cases hs
    rename_i hnb
    obtain ⟨hc, hs⟩ := ifK_some hs
    rw [Option.bind_eq_some_iff] at hs
    obtain ⟨⟨m', y⟩, hy, hs⟩ := hs
    refine ⟨_, hs, fun Γ ρ h w cargs hI hargs hH hn hfree => ?_⟩
    obtain ⟨hfl, hcs⟩ := dec_ok s cs m [] hdec
    rw [List.append_nil] at hcs
    have hb : h.get b = mEnt s m := by rw [hH b (List.mem_cons_self ..), hHb, hcs]; rfl
    cases hca : cargs.toList with
    | nil => rw [hca] at hargs; simp [VRs] at hargs
    | cons a0 as0 =>
      rw [hca] at hargs
      simp only [VRs] at hargs
      obtain ⟨hp, hrest⟩ := hargs
      have bsne : ∀ b' ∈ bs, b' ≠ b := fun b' hb' e => by
        subst e
        have : bs.contains b' = true := by simpa using hb'
        rw [this] at hnb; cases hnb
      have hvw := viewArgs_ok (Q := fun b' => b' ≠ b) hI.sim ss rest as0 hrest x bs c hv (fun b' hb' => hH b' (List.mem_cons_of_mem _ hb')) bsne hc
      obtain ⟨ρv, hvb, h1, h2, h9⟩ := sim_views hI.sim.baseLe hI.sim.old hvw
      have hlen := entss_length ss x
      let ρg : Ren := ⟨fun i => if i = (Sh.entss ss x).length then ρ b else if i < (Sh.entss ss x).length then ρv i else none, ρ.base⟩
      have ρlt : ∀ i, i < (Sh.entss ss x).length → ρg i = ρv i := fun i hi => by
        simp only [ρg]; rw [if_neg (by omega), if_pos hi]
      have ρN : ρg (Sh.entss ss x).length = ρ b := by simp only [ρg]; rw [if_pos trivial]
      have vle2 : ρv.le ρg := ⟨fun i d hi => by
        by_cases hl : i < (Sh.entss ss x).length
        · rw [ρlt i hl]; exact hi
        · have := h2.dom i (by simp [Heap.get, List.getD_eq_getElem?_getD, List.getElem?_eq_none (show (Sh.entss ss x).length ≤ i by omega)])
          rw [this] at hi; exact absurd hi (by simp), hvb.symm⟩
      have ent : ∀ i blk, Heap.get (Sh.entss ss x ++ [mEnt s m]) i = .live blk → (i < (Sh.entss ss x).length ∧ Heap.get (Sh.entss ss x) i = .live blk ∧ blk.rw = false) ∨ (i = (Sh.entss ss x).length ∧ h.get b = .live blk ∧ blk = { cells := .lit ((s.enc m).map .val), rw := true }) := fun i blk hi => by
        rw [get_snoc] at hi
        split at hi
        · rename_i hl; exact .inl ⟨hl, hi, entss_norw hi⟩
        · split at hi
          · rename_i h9; exact .inr ⟨h9, by rw [hb]; exact hi, by unfold mEnt at hi; injection hi with hi; exact hi.symm⟩
          · cases hi
      have solro : ∀ (blk : Blk) d, blk.rw = false → blk.solid d → 0 < blk.cells.len := fun blk d hr hs => by
        rcases hs with hs | hs
        · exact hs
        · rw [hr] at hs; exact absurd hs.1 (by simp)
      have hsim : Sim ρg (Sh.entss ss x ++ [mEnt s m]) w := by
        refine ⟨fun i blk hi => ?_, fun i blk d hi hd => ?_, fun i blk d hi hd hs => ?_, fun i blk d hi hd hr hs => ?_, fun i j blk blk' d d' hi hj hij hd hd' hr hs hs' => ?_, fun i hi => ?_, hI.sim.baseLe, hI.sim.old, fun i blk d hi hd hr hs => ?_⟩
        · rcases ent i blk hi with ⟨k1, k2, k3⟩ | ⟨k1, k2, k3⟩
          · rw [ρlt i k1]; exact h2.some_ i blk k2
          · rw [k1, ρN]; exact hI.sim.some_ b blk k2
        · rcases ent i blk hi with ⟨k1, k2, k3⟩ | ⟨k1, k2, k3⟩
          · rw [ρlt i k1] at hd; exact (h2.cells i blk d k2 hd).mono vle2
          · rw [k1, ρN] at hd
            have := hI.sim.cells b blk d k2 hd
            rw [k3] at this ⊢
            exact vals_free this
        · rcases ent i blk hi with ⟨k1, k2, k3⟩ | ⟨k1, k2, k3⟩
          · rw [ρlt i k1] at hd; exact h2.inside i blk d k2 hd hs
          · rw [k1, ρN] at hd; exact hI.sim.inside b blk d k2 hd hs
        · rcases ent i blk hi with ⟨k1, k2, k3⟩ | ⟨k1, k2, k3⟩
          · rw [k3] at hr; cases hr
          · rw [k1, ρN] at hd; exact hI.sim.own b blk d k2 hd hr hs
        · rcases ent i blk hi with ⟨k1, k2, k3⟩ | ⟨k1, k2, k3⟩
          · rw [k3] at hr; cases hr
          · rw [k1, ρN] at hd
            rcases ent j blk' hj with ⟨j1, j2, j3⟩ | ⟨j1, j2, j3⟩
            · rw [ρlt j j1] at hd'
              obtain ⟨b', bk, cc, q1, q2, q3, q4, q5⟩ := h9 j blk' d' j2 hd' (solro blk' d' j3 hs')
              rw [← q5]
              exact hI.sim.apart b b' blk bk d cc k2 q2 (Ne.symm q1) hd q3 hr hs q4
            · exact absurd (k1.trans j1.symm) hij
        · by_cases hl : i < (Sh.entss ss x).length
          · rw [ρlt i hl]; refine h2.dom i ?_
            rw [get_snoc, if_pos hl] at hi; exact hi
          · by_cases hl2 : i = (Sh.entss ss x).length
            · rw [get_snoc, if_neg hl, if_pos hl2] at hi; cases hi
            · simp only [ρg]; rw [if_neg hl2, if_neg hl]
        · rcases ent i blk hi with ⟨k1, k2, k3⟩ | ⟨k1, k2, k3⟩
          · rw [k3] at hr; cases hr
          · rw [k1, ρN] at hd; exact hI.sim.above b blk d k2 hd hr hs
      have hargsg : VRs ρg (.ptr (Sh.nes ss) 0 :: Sh.args ss x 0) cargs.toList := by
        rw [hca]
        simp only [VRs]
        refine ⟨?_, VRs.mono vle2 _ _ h1⟩
        simp only [VR] at hp ⊢
        rw [← hlen, ρN]; exact hp
      refine (hr m x m' y hy ρg w cargs hsim hargsg).mono fun e w' ⟨ρg', cv, he, hvv, hJ⟩ => ?_
      have hfin := after_mut hI hfl hb (es := Sh.entss ss x) (fun i blk hi => entss_norw hi) (ρg := ρg) ρN rfl hJ
      exact ⟨ρ, cv, he, Ren.le_refl ρ, outV_shift rs y 0 0 (fun k hk => by omega) hvv, hfin⟩
end Go.Ab
namespace Go.Ab
abbrev U3 : List Sh := [.int .u64, .int .u64, .int .u64]
abbrev U2 : List Sh := [.int .u64, .int .u64]
def add64Law (x : Sh.Ts U3) : Option (Sh.Ts U2) :=
  bif decide (Int.toNat x.2.2.1 ≤ 1) then some ((((Int.toNat x.1 + Int.toNat x.2.1 + Int.toNat x.2.2.1) % 18446744073709551616 : Nat) : Int), (((Int.toNat x.1 + Int.toNat x.2.1 + Int.toNat x.2.2.1) / 18446744073709551616 : Nat) : Int), ()) else none
def sub64Law (x : Sh.Ts U3) : Option (Sh.Ts U2) :=
  bif decide (Int.toNat x.2.2.1 ≤ 1) then some ((((Int.toNat x.1 + 18446744073709551616 - Int.toNat x.2.1 - Int.toNat x.2.2.1) % 18446744073709551616 : Nat) : Int), (if Int.toNat x.1 < Int.toNat x.2.1 + Int.toNat x.2.2.1 then 1 else 0 : Int), ()) else none
def sub64Entry : Array Value → Sem Value := fun args => do
  let (x, y, b) ← Extern.MathBitsCarry.three "Sub64" args
  pure (Extern.MathBitsCarry.pair ((x + Extern.MathBitsCarry.m64 - y - b) % Extern.MathBitsCarry.m64) (if x < y + b then 1 else 0))
theorem run_three {P : Program} (nm : String) (x y c : Int) (hc : c.toNat ≤ 1) (w : World) : (Extern.MathBitsCarry.three nm #[.int .u64 x, .int .u64 y, .int .u64 c]).run P w = .ok (x.toNat, y.toNat, c.toNat) w := by
  have h : Extern.MathBitsCarry.three nm #[.int .u64 x, .int .u64 y, .int .u64 c] = (do
    let c := (← asInt (.int .u64 c)).toNat
    if c > 1 then unsupported (.noEntry ("extern/math/bits." ++ nm ++ ": a carry that is neither 0 nor 1"))
    pure ((← asInt (.int .u64 x)).toNat, (← asInt (.int .u64 y)).toNat, c)) := rfl
  have hi : ∀ (k : IntKind) (v : Int) (w : World), (asInt (.int k v)).run P w = .ok v w := fun _ _ _ => rfl
  rw [h]
  simp only [Sem.run_bind, hi, Result.andThen]
  rw [if_neg (by omega)]
  simp only [Sem.run_bind, hi, Result.andThen, Sem.run_pure]
theorem Reads.of_extern {P : Program} {f : FuncId} {fn : Func} {e : Array Value → Sem Value} (hf : P.funcs[f]? = some fn) (hname : (fn.name == "runtime.NumGoroutine") = false) (hb : fn.body.isNone = true) (hn : Extern.findNext fn = none) (he : Extern.find fn = some e) {law : Sh.Ts U3 → Option (Sh.Ts U2)}
    (hl : ∀ (a b c : Int) y, law (a, b, c, ()) = some y → ∀ w, (e #[.int .u64 a, .int .u64 b, .int .u64 c]).run P w = .ok (.tuple #[.int .u64 y.1, .int .u64 y.2.1]) w) : Reads P f U3 U2 law := by
  intro x y hxy ρ w cargs hsim hargs
  obtain ⟨a, b, c, u⟩ := x
  cases u
  have hc : cargs = #[.int .u64 a, .int .u64 b, .int .u64 c] := by
    have h1 : ∀ l, VRs ρ [.val (.int .u64 a), .val (.int .u64 b), .val (.int .u64 c)] l → l = [.int .u64 a, .int .u64 b, .int .u64 c] := by
      intro l hl
      match l, hl with
      | [p, q, r], hl =>
        simp only [VRs, VR] at hl
        rw [hl.1, hl.2.1, hl.2.2.1]
      | [], hl => simp [VRs] at hl
      | [_], hl => simp [VRs] at hl
      | [_, _], hl => simp [VRs] at hl
      | _ :: _ :: _ :: _ :: _, hl => simp [VRs] at hl
    have h2 := h1 cargs.toList hargs
    exact Array.toList_inj.1 h2
  subst hc
  unfold Invokes
  rw [run_callFunc_extern hf hname hb hn he, hl a b c y hxy]
  simp only [Result.andThen]
  refine ⟨ρ, _, rfl, ?_, ?_⟩
  · obtain ⟨p, q, u⟩ := y
    simp only [outV, Sh.args, Sh.arg, resV, VR]
    exact ⟨_, rfl, by simp [VRs, VR]⟩
  · exact ⟨hsim, fun _ _ => rfl, rfl, rfl, rfl, rfl, Nat.le_refl _, fun _ _ _ => rfl, fun b blk d hb hd hrw hs => by
      have : Heap.get (Sh.entss U3 (a, b, c, ()) ++ newEnts U2 y) b = .free := by
        obtain ⟨p, q, u⟩ := y
        rfl
      exact absurd hb (by
        intro hb
        have h9 : Heap.get ([] : Heap) b = .live blk := hb
        simp [Heap.get] at h9)⟩
theorem add64_run {P : Program} (a b c : Int) (y : Sh.Ts U2) (h : add64Law (a, b, c, ()) = some y) (w : World) : (add64Entry #[.int .u64 a, .int .u64 b, .int .u64 c]).run P w = .ok (.tuple #[.int .u64 y.1, .int .u64 y.2.1]) w := by
  unfold add64Law at h
  cases hc : decide (Int.toNat c ≤ 1) with
  | false => simp only [hc, cond_false] at h; cases h
  | true =>
    simp only [hc, cond_true] at h
    injection h with h; subst h
    have hc : Int.toNat c ≤ 1 := by simpa using hc
    simp only [add64Entry, Sem.run_bind, run_three _ _ _ _ hc, Result.andThen, Sem.run_pure, Extern.MathBitsCarry.pair, Extern.MathBitsCarry.m64]
    rfl
theorem sub64_run {P : Program} (a b c : Int) (y : Sh.Ts U2) (h : sub64Law (a, b, c, ()) = some y) (w : World) : (sub64Entry #[.int .u64 a, .int .u64 b, .int .u64 c]).run P w = .ok (.tuple #[.int .u64 y.1, .int .u64 y.2.1]) w := by
  unfold sub64Law at h
  cases hc : decide (Int.toNat c ≤ 1) with
  | false => simp only [hc, cond_false] at h; cases h
  | true =>
    simp only [hc, cond_true] at h
    injection h with h; subst h
    have hc : Int.toNat c ≤ 1 := by simpa using hc
    simp only [sub64Entry, Sem.run_bind, run_three _ _ _ _ hc, Result.andThen, Sem.run_pure, Extern.MathBitsCarry.pair, Extern.MathBitsCarry.m64]
    split <;> rfl
end Go.Ab
namespace Go.Ab
def boxes : (cs : List Sh) → Sh.Ts cs → Nat → List Ent
  | [], _, _ => []
  | s :: l, x, n => .live { cells := .lit (s.cells x.1 n), rw := false } :: boxes l x.2 (n + s.ne)
def boxPtrs : List Sh → Nat → List AV
  | [], _ => []
  | _ :: l, N => .ptr N 0 :: boxPtrs l (N + 1)
def argsC (ss : List Sh) (g : FuncId) (cs : List Sh) (x : Sh.Ts ss) : List AV := Sh.args ss x 0 ++ [.fn (.func g) [] (boxPtrs cs (Sh.nes ss + Sh.nes cs))]
def heapC (ss cs : List Sh) (x : Sh.Ts ss) (xs : Sh.Ts cs) : Heap := Sh.entss ss x ++ (Sh.entss cs xs ++ boxes cs xs (Sh.nes ss))
theorem boxes_length : ∀ (cs : List Sh) (xs : Sh.Ts cs) (n : Nat), (boxes cs xs n).length = cs.length
  | [], _, _ => rfl
  | s :: l, xs, n => by simp [boxes, boxes_length l]
theorem boxes_ro : ∀ (cs : List Sh) (xs : Sh.Ts cs) (n : Nat) (e : Ent), e ∈ boxes cs xs n → ∃ blk : Blk, e = .live blk ∧ blk.rw = false
  | [], _, _, e, h => by simp [boxes] at h
  | s :: l, xs, n, e, h => by
    simp only [boxes, List.mem_cons] at h
    rcases h with h | h
    · subst h; exact ⟨_, rfl, rfl⟩
    · exact boxes_ro l xs.2 _ e h
theorem heapC_ro {ss cs : List Sh} {x : Sh.Ts ss} {xs : Sh.Ts cs} (e : Ent) (h : e ∈ heapC ss cs x xs) : ∃ blk : Blk, e = .live blk ∧ blk.rw = false := by
  simp only [heapC, List.mem_append] at h
  rcases h with h | h | h
  · obtain ⟨blk, h1, h2, _⟩ := entss_live ss x e h; exact ⟨blk, h1, h2⟩
  · obtain ⟨blk, h1, h2, _⟩ := entss_live cs xs e h; exact ⟨blk, h1, h2⟩
  · exact boxes_ro cs xs _ e h
theorem heap_mem {h : Heap} {b : Nat} {blk : Blk} (hb : h.get b = .live blk) : h[b]? = some (.live blk) := by
  simp only [Heap.get, List.getD_eq_getElem?_getD] at hb
  cases hq : h[b]? with
  | none => rw [hq] at hb; cases hb
  | some e => rw [hq] at hb; simp at hb; rw [hb]
theorem heapC_norw {ss cs : List Sh} {x : Sh.Ts ss} {xs : Sh.Ts cs} {b : Nat} {blk : Blk} (hb : Heap.get (heapC ss cs x xs) b = .live blk) : blk.rw = false := by
  obtain ⟨blk', h1, h2⟩ := heapC_ro (ss := ss) (cs := cs) (x := x) (xs := xs) _ (List.mem_of_getElem? (heap_mem hb))
  injection h1 with h1; rw [h1]; exact h2
theorem heapC_length (ss cs : List Sh) (x : Sh.Ts ss) (xs : Sh.Ts cs) : (heapC ss cs x xs).length = Sh.nes ss + Sh.nes cs + cs.length := by
  simp [heapC, entss_length, boxes_length]; omega
def ReadsC (P : Program) (f : FuncId) (ss : List Sh) (g : FuncId) (cs rs : List Sh) (law : Sh.Ts ss → Sh.Ts cs → Option (Sh.Ts rs)) : Prop :=
  ∀ x xs y, law x xs = some y → Does P f (argsC ss g cs x) (heapC ss cs x xs) (outV rs y 0) (heapC ss cs x xs)
def codeLawC (P : Program) (env : Env P) (fuel : Nat) (L : Loops P env.Y) (fn : Func) (c : Code) (ss : List Sh) (g : FuncId) (cs rs : List Sh) (x : Sh.Ts ss) (xs : Sh.Ts cs) : Option (Sh.Ts rs) :=
  codeK P env (Sh.nes ss + Sh.nes cs + cs.length) fuel L [] (.code c) (argsC ss g cs x ++ List.replicate (fn.ntmps - (ss.length + 1)) (.val undef)) (heapC ss cs x xs) fun e t h => outK (P := P) fn rs e t h
theorem ReadsC.of_code {P : Program} (hm : P.follows .mixedOrders = true) {f : FuncId} {fn : Func} {c : Code} (hf : P.funcs[f]? = some fn) (hb : fn.body = some c) (hname : (fn.name == "runtime.NumGoroutine") = false)
    (env : Env P) (fuel : Nat) {L : Loops P env.Y} (hL : L.fit c) {ss : List Sh} {g : FuncId} {cs rs : List Sh} (hrs : Sh.nes rs = 0) (hy : ∀ Γ, env.Y Γ := by exact fun _ => True.intro) : ReadsC P f ss g cs rs (codeLawC P env fuel L fn c ss g cs rs) := by
  intro x xs y hxy ρ w cargs hsim hargs
  unfold codeLawC at hxy
  have hlen0 := heapC_length ss cs x xs
  obtain ⟨e, t1, h1, hk, hn1, hg⟩ := codeK_ok hm fuel L [] (.code c) _ _ _ c hL (.inr rfl) (by omega) hxy
  unfold outK at hk
  split at hk
  case h_2 => cases hk
  rename_i hex
  split at hk
  case h_2 => cases hk
  rename_i vs hvs
  split at hk
  case h_2 => cases hk
  rename_i y' bs cc hview
  obtain ⟨hcc, hk⟩ := ifK_some hk
  injection hk with hk; subst hk
  unfold Invokes
  have hcall : (callFunc f cargs).run P w = .ok (.enter f cargs) w := by
    simp only [callFunc, program, Sem.run_bind, Sem.run, Result.andThen, hf]
    simp only [hname, hb, Option.isNone_some, Bool.false_eq_true, if_false]
    rfl
  rw [hcall]
  simp only
  have hlen := hargs.length
  simp only [argsC, List.length_append, args_length, List.length_singleton] at hlen
  have hro : ∀ b blk, Heap.get (heapC ss cs x xs) b = .live blk → blk.rw = false := fun b blk hb => heapC_norw hb
  have hI : Inv ⟨(heapC ss cs x xs).length, ρ, heapC ss cs x xs, w⟩ ρ (heapC ss cs x xs) w :=
    ⟨hsim, fun _ _ => rfl, rfl, rfl, rfl, rfl, Nat.le_refl _, fun _ _ _ => rfl, fun b blk d hb hd hrw hs => by rw [hro b blk hb] at hrw; cases hrw⟩
  have hV : VRs ρ (argsC ss g cs x ++ List.replicate (fn.ntmps - (ss.length + 1)) (.val undef)) ({ tmps := cargs ++ Array.replicate (fn.ntmps - cargs.size) undef, defers := [] } : Act).tmps.toList := by
    simp only [Array.toList_append, Array.toList_replicate]
    refine hargs.append ?_
    rw [hlen]
    simpa using VRs.replicate (ρ := ρ) (a := .val undef) (v := undef) (by simp [VR]) (fn.ntmps - cargs.size)
  refine calls_of_runs hf hb hg hex hlen0 (hy _) hI hV fun ρ2 w2 a2 g2 g3 => ?_
  obtain ⟨us, cv, k1, k2, k3⟩ := run_results_list (P := P) g2 g3 hvs
  have hva := viewArgs_ok (Q := fun _ => True) g2.sim rs vs us k2 y' bs cc hview (fun b _ => rfl) (fun _ _ => trivial) hcc
  have hout : VR ρ (outV rs y' 0) cv := by
    obtain ⟨c0, hc0, hvv⟩ := hva
    have : c0 = [] := List.length_eq_zero_iff.1 (by rw [hc0, hrs])
    subst this
    refine k3 ρ _ ?_
    have := (hvv ⟨ρ.f, ρ2.base⟩ 0 rfl (fun i d hi => by simp at hi)).1
    exact args_shift rs y' 0 _ (fun k hk => by omega) us this
  have hset := settle hsim hro g2
  exact ⟨cv, k1, ρ, cv, rfl, hout, hset⟩
theorem ReadsC.to {P : Program} {f : FuncId} {ss : List Sh} {g : FuncId} {cs rs : List Sh} {law law' : Sh.Ts ss → Sh.Ts cs → Option (Sh.Ts rs)} (h : ReadsC P f ss g cs rs law) (he : ∀ x xs, law x xs = law' x xs) : ReadsC P f ss g cs rs law' := fun x xs y hxy => h x xs y (by rw [he]; exact hxy)
def viewBoxes (H : Nat → Ent) : (cs : List Sh) → List AV → Option (Sh.Ts cs × List Nat × Bool)
  | [], [] => some ((), [], true)
  | s :: l, .ptr b 0 :: as => (match H b with
    | .live blk => (match blk.cells with
      | .lit cells => (match viewC H s cells with
        | some (y, bs, c, []) => (match viewBoxes H l as with
          | some (z, bs', c') => some ((y, z), b :: (bs ++ bs'), c && c')
          | none => none)
        | _ => none)
      | _ => none)
    | _ => none)
  | _, _ => none
def BoxViews (w B : World) (cs : List Sh) (xs : Sh.Ts cs) (vs : List Value) : Prop :=
  ∃ (c d : List (Nat × Nat × Nat)), c.length = Sh.nes cs ∧ d.length = cs.length ∧ ∀ (ρ : Ren) (next N : Nat), ρ.base = B → (∀ (i : Nat) (e : Nat × Nat × Nat), c[i]? = some e → ρ (next + i) = some e) → (∀ (i : Nat) (e : Nat × Nat × Nat), d[i]? = some e → ρ (N + i) = some e) →
    VRs ρ (boxPtrs cs N) vs ∧ (∀ (i : Nat) (blk : Blk), (Sh.entss cs xs)[i]? = some (.live blk) → ∃ e : Nat × Nat × Nat, c[i]? = some e ∧ CellsAt ρ w e.1 e.2.1 blk.cells) ∧ (∀ (i : Nat) (blk : Blk), (boxes cs xs next)[i]? = some (.live blk) → ∃ e : Nat × Nat × Nat, d[i]? = some e ∧ CellsAt ρ w e.1 e.2.1 blk.cells)
theorem viewBoxes_ok {ρ0 : Ren} {h : Heap} {w : World} {H : Nat → Ent} (hs : Sim ρ0 h w) : ∀ (cs : List Sh) (as : List AV) (vs : List Value), VRs ρ0 as vs → ∀ (xs : Sh.Ts cs) (bs : List Nat) (c : Bool), viewBoxes H cs as = some (xs, bs, c) → (∀ b ∈ bs, h.get b = H b) → c = true → BoxViews w ρ0.base cs xs vs
  | [], [], [], _, xs, bs, c, _, _, _ => ⟨[], [], rfl, rfl, fun ρ next N _ _ _ => ⟨by simp [boxPtrs, VRs], fun i blk h => by simp [Sh.entss] at h, fun i blk h => by simp [boxes] at h⟩⟩
  | [], [], _ :: _, hv, _, _, _, _, _, _ => by simp [VRs] at hv
  | [], _ :: _, _, _, _, _, _, h, _, _ => by simp [viewBoxes] at h
  | _ :: _, [], _, _, _, _, _, h, _, _ => by simp [viewBoxes] at h
  | _ :: _, _ :: _, [], hv, _, _, _, _, _, _ => by simp [VRs] at hv
  | s :: l, a :: as, v :: vs, hv, xs, bs, c, hvw, hH, hc => by
    have ha : ∃ b, a = .ptr b 0 := by
      cases a with
      | ptr b o => cases o with
        | zero => exact ⟨b, rfl⟩
        | succ => simp [viewBoxes] at hvw
      | _ => simp [viewBoxes] at hvw
    obtain ⟨b, rfl⟩ := ha
    simp only [VRs] at hv
    simp only [viewBoxes] at hvw
    · skip
      split at hvw
      case h_2 => cases hvw
      rename_i blk hblk
      split at hvw
      case h_2 => cases hvw
      rename_i cells hcells
      split at hvw
      case h_2 => cases hvw
      rename_i y b0 c0 hvc
      split at hvw
      case h_2 => cases hvw
      rename_i z b1 c1 h1
      injection hvw with hvw; injection hvw with e1 e2; injection e2 with e2 e3
      subst e1; subst e2; subst e3
      simp only [Bool.and_eq_true] at hc
      have hb : h.get b = .live blk := by rw [hH b (List.mem_cons_self ..)]; exact hblk
      have hp := hv.1
      simp only [VR] at hp
      obtain ⟨cb, co, cc, hρ, rfl⟩ := hp
      have hca := hs.cells b blk _ hb hρ
      rw [hcells] at hca
      obtain ⟨us, k1, k2⟩ := CellsAt.list cells _ hca
      obtain ⟨v1, v2, g1, g2, ⟨d1, l1, f1⟩⟩ := viewC_ok (Q := fun _ => True) hs s cells us k1 y b0 c0 [] hvc (fun b' hb' => hH b' (List.mem_cons_of_mem _ (List.mem_append.2 (.inl hb')))) (fun _ _ => trivial) hc.1
      have : v2 = [] := by
        cases v2 with
        | nil => rfl
        | cons => simp [VRs] at g2
      subst this
      rw [List.append_nil] at g1
      subst g1
      obtain ⟨d2, q2, l2, m2, f2⟩ := viewBoxes_ok hs l as vs hv.2 z b1 c1 h1 (fun b' hb' => hH b' (List.mem_cons_of_mem _ (List.mem_append.2 (.inr hb')))) hc.2
      refine ⟨d1 ++ d2, (cb, co, cc) :: q2, by simp [Sh.nes, l1, l2], by simp [m2], fun ρ next N hbase hρ1 hρ2 => ?_⟩
      obtain ⟨a1, a2⟩ := f1 ρ next hbase fun i d hi => hρ1 i d (by rw [List.getElem?_append_left]; exact hi; exact (List.getElem?_eq_some_iff.1 hi).1)
      obtain ⟨b1', b2, b3⟩ := f2 ρ (next + s.ne) (N + 1) hbase (fun i d hi => by
        have := hρ1 (s.ne + i) d (by rw [List.getElem?_append_right (by omega), l1, Nat.add_sub_cancel_left]; exact hi)
        rw [Nat.add_assoc]; exact this) (fun i d hi => by
        have := hρ2 (i + 1) d (by simpa using hi)
        rw [show N + 1 + i = N + (i + 1) by omega]; exact this)
      refine ⟨?_, fun i blk' hi => ?_, fun i blk' hi => ?_⟩
      · simp only [boxPtrs, VRs, VR]
        exact ⟨⟨cb, co, cc, by simpa using hρ2 0 _ rfl, rfl⟩, b1'⟩
      · simp only [Sh.entss] at hi
        have el := ents_length s y
        by_cases hil : i < s.ne
        · rw [List.getElem?_append_left (by omega)] at hi
          obtain ⟨d, h3, h4, _⟩ := a2 i blk' hi
          exact ⟨d, by rw [List.getElem?_append_left (by omega)]; exact h3, h4⟩
        · rw [List.getElem?_append_right (by omega), el] at hi
          obtain ⟨d, h3, h4⟩ := b2 (i - s.ne) blk' hi
          exact ⟨d, by rw [List.getElem?_append_right (by omega), l1]; exact h3, h4⟩
      · cases i with
        | zero =>
          simp only [boxes] at hi
          simp at hi; subst hi
          refine ⟨(cb, co, cc), rfl, ?_⟩
          have : ∀ (as : List AV) (vs : List Value), VRs ρ as vs → (∀ (i : Nat) (v : Value), vs[i]? = some v → w.cell? ⟨cb, co + i, none⟩ = some v) → CellsAt ρ w cb co (.lit as) := fun as vs hr hu => CRel.at_ (c := .lit as) hr hu
          exact this _ _ a1 k2
        | succ i =>
          simp only [boxes] at hi
          obtain ⟨d, h3, h4⟩ := b3 i blk' (by simpa using hi)
          exact ⟨d, by simpa using h3, h4⟩
theorem sim_ro {ρ : Ren} {h : Heap} {w : World} (hB : ρ.base.heap.size ≤ w.heap.size) (hO : ∀ i, i < ρ.base.heap.size → w.heap[i]? = ρ.base.heap[i]?) (hro : ∀ b blk, h.get b = .live blk → blk.rw = false)
    (hc : ∀ b blk, h.get b = .live blk → ∃ d, ρ b = some d ∧ CellsAt ρ w d.1 d.2.1 blk.cells) (hd : ∀ b, h.get b = .free → ρ b = none) : Sim ρ h w := by
  have norw : ∀ b blk, h.get b = .live blk → blk.rw = true → False := fun b blk hb hr => by rw [hro b blk hb] at hr; cases hr
  refine ⟨fun b blk hb => ?_, fun b blk c hb hc' => ?_, fun b blk c hb hc' hs => ?_, fun b blk c hb hc' hr => (norw b blk hb hr).elim, fun b b' blk blk' c c' hb hb' hne hc' hd' hr => (norw b blk hb hr).elim, hd, hB, hO, fun b blk c hb hc' hr => (norw b blk hb hr).elim⟩
  · obtain ⟨d, h1, _⟩ := hc b blk hb; exact ⟨d, h1⟩
  · obtain ⟨d, h1, h2⟩ := hc b blk hb
    rw [h1] at hc'; injection hc' with hc'; subst hc'; exact h2
  · obtain ⟨d, h1, h2⟩ := hc b blk hb
    rw [h1] at hc'; injection hc' with hc'; subst hc'
    refine inside_of18 h2 ?_
    rcases hs with hs | hs
    · exact hs
    · exact (norw b blk hb hs.1).elim
def readsCS {P : Program} {β : Type} (ss : List Sh) (g : FuncId) (cs rs : List Sh) (law : Sh.Ts ss → Sh.Ts cs → Option (Sh.Ts rs)) (H : Nat → Ent) (new : Nat) (args : List AV) (K : Eff → Option β) : Option β :=
  match args.drop ss.length with
  | [.fn (.func g') [] caps] => if g' = g then (match viewArgs H ss (args.take ss.length) with
    | some (x, bs, c) => (match viewBoxes H cs caps with
      | some (xs, bs', c') => ifK (c && c') ((law x xs).bind fun y => K { rb := bs ++ bs', val := outV rs y 0 })
      | none => none)
    | none => none) else none
  | _ => none
def ReadsC.summ {P : Program} {f : FuncId} {ss : List Sh} {g : FuncId} {cs rs : List Sh} {law : Sh.Ts ss → Sh.Ts cs → Option (Sh.Ts rs)} (hr : ReadsC P f ss g cs rs law) (hrs : Sh.nes rs = 0) : Summ P where
  f := f
  S := fun H new args K => readsCS (P := P) ss g cs rs law H new args K
  ok := by
    intro β H new args K r hs
    unfold readsCS at hs
    split at hs
    case h_2 => cases hs
    rename_i g' caps hdrop
    split at hs
    case isFalse => cases hs
    rename_i hg
    subst hg
    split at hs
    case h_2 => cases hs
    rename_i x bs c hv
    split at hs
    case h_2 => cases hs
    rename_i xs bs' c' hvb
    obtain ⟨hc, hs⟩ := ifK_some hs
    simp only [Bool.and_eq_true] at hc
    rw [Option.bind_eq_some_iff] at hs
    obtain ⟨y, hy, hs⟩ := hs
    refine ⟨_, hs, fun Γ ρ h w cargs hI hargs hH hn hfree => ?_⟩
    have hH1 : ∀ b ∈ bs, h.get b = H b := fun b hb => hH b (List.mem_append.2 (.inl hb))
    have hH2 : ∀ b ∈ bs', h.get b = H b := fun b hb => hH b (List.mem_append.2 (.inr hb))
    have hsplit : args = args.take ss.length ++ [.fn (.func g') [] caps] := by rw [← hdrop, List.take_append_drop]
    rw [hsplit] at hargs
    obtain ⟨v1, v2, hv12, hr1, hr2⟩ := VRs.split _ _ _ hargs
    cases v2 with
    | nil => simp [VRs] at hr2
    | cons fv rest =>
      simp only [VRs] at hr2
      have hrest : rest = [] := by
        cases rest with
        | nil => rfl
        | cons => simp [VRs] at hr2
      subst hrest
      have hfv := hr2.1
      simp only [VR] at hfv
      obtain ⟨fs', cs', rfl, hfs, hcs⟩ := hfv
      obtain ⟨c1, n1, f1⟩ := viewArgs_ok (Q := fun _ => True) hI.sim ss _ _ hr1 x bs c hv hH1 (fun _ _ => trivial) hc.1
      obtain ⟨c2, d2, n2, m2, f2⟩ := viewBoxes_ok hI.sim cs caps _ hcs xs bs' c' hvb hH2 hc.2
      let ρg : Ren := ⟨fun b => (c1 ++ (c2 ++ d2))[b]?, ρ.base⟩
      obtain ⟨a1, a2⟩ := f1 ρg 0 rfl fun i d hi => by
        show (c1 ++ (c2 ++ d2))[0 + i]? = _
        rw [Nat.zero_add, List.getElem?_append_left (List.getElem?_eq_some_iff.1 hi).1]; exact hi
      obtain ⟨b1, b2, b3⟩ := f2 ρg (Sh.nes ss) (Sh.nes ss + Sh.nes cs) rfl (fun i d hi => by
        show (c1 ++ (c2 ++ d2))[Sh.nes ss + i]? = _
        rw [List.getElem?_append_right (by omega), n1, Nat.add_sub_cancel_left, List.getElem?_append_left (List.getElem?_eq_some_iff.1 hi).1]; exact hi) (fun i d hi => by
        show (c1 ++ (c2 ++ d2))[Sh.nes ss + Sh.nes cs + i]? = _
        rw [List.getElem?_append_right (by omega), n1, List.getElem?_append_right (by omega), n2, show Sh.nes ss + Sh.nes cs + i - Sh.nes ss - Sh.nes cs = i by omega]; exact hi)
      have e1 := entss_length ss x
      have e2 := entss_length cs xs
      have e3 := boxes_length cs xs (Sh.nes ss)
      have hsim : Sim ρg (heapC ss cs x xs) w := by
        refine sim_ro hI.sim.baseLe hI.sim.old (fun b blk hb => heapC_norw hb) (fun b blk hb => ?_) (fun b hb => ?_)
        · have hb := heap_mem hb
          unfold heapC at hb
          by_cases h1 : b < Sh.nes ss
          · rw [List.getElem?_append_left (by omega)] at hb
            obtain ⟨d, h3, h4, _⟩ := a2 b blk hb
            exact ⟨d, by show (c1 ++ (c2 ++ d2))[b]? = _; rw [List.getElem?_append_left (by omega)]; exact h3, h4⟩
          · rw [List.getElem?_append_right (by omega)] at hb
            by_cases h2 : b - Sh.nes ss < Sh.nes cs
            · rw [List.getElem?_append_left (by omega)] at hb
              obtain ⟨d, h3, h4⟩ := b2 _ blk hb
              refine ⟨d, ?_, h4⟩
              show (c1 ++ (c2 ++ d2))[b]? = _
              rw [List.getElem?_append_right (by omega), List.getElem?_append_left (by omega), n1, ← e1]; exact h3
            · rw [List.getElem?_append_right (by omega)] at hb
              obtain ⟨d, h3, h4⟩ := b3 _ blk hb
              refine ⟨d, ?_, h4⟩
              show (c1 ++ (c2 ++ d2))[b]? = _
              rw [List.getElem?_append_right (by omega), List.getElem?_append_right (by omega), n1, n2, ← e1, ← e2]; exact h3
        · show (c1 ++ (c2 ++ d2))[b]? = none
          refine List.getElem?_eq_none ?_
          rcases Nat.lt_or_ge b (heapC ss cs x xs).length with h9 | h9
          · exfalso
            obtain ⟨blk, k1, _⟩ := heapC_ro (ss := ss) (cs := cs) (x := x) (xs := xs) (heapC ss cs x xs)[b] (List.getElem_mem h9)
            simp only [Heap.get, List.getD_eq_getElem?_getD, List.getElem?_eq_getElem h9, Option.getD_some, k1] at hb
            cases hb
          · rw [heapC_length] at h9
            simp; omega
      have hargsg : VRs ρg (argsC ss g' cs x) cargs.toList := by
        rw [hv12]
        refine a1.append ?_
        simp only [VRs, VR]
        exact ⟨⟨fs', cs', rfl, hfs.nil_any, b1⟩, trivial⟩
      refine (hr x xs y hy ρg w cargs hsim hargsg).mono fun e w' ⟨ρg', cv, he, hvv, hJ⟩ => ?_
      obtain ⟨ρ', g1, g2, g3⟩ := after_pure hI (hg := heapC ss cs x xs) (fun b blk hb => heapC_norw hb) (es := []) rfl (by rw [List.append_nil]; exact hJ) hn (fun z h1 h2 => by simp at h2; omega)
      exact ⟨ρ', cv, he, g1, outV_shift rs y 0 0 (fun k hk => by omega) hvv, g3⟩
def Summ.choose {P : Program} (test : List AV → Bool) (a b : Summ P) (h : b.f = a.f) : Summ P where
  f := a.f
  S := fun H new args K => match test args with
    | true => a.S H new args K
    | false => b.S H new args K
  ok := by
    intro β H new args K r hs
    split at hs
    · exact a.ok H new args K r hs
    · have := b.ok H new args K r hs
      rw [h] at this; exact this
def lastFn (g : FuncId) (args : List AV) : Bool := match args.getLast? with
  | some (.fn (.func g') _ _) => decide (g' = g)
  | _ => false
end Go.Ab
namespace Go.Ab
def fEnt (e : Sh) (l : List e.T) : Ent := .live { cells := .arr e l, rw := true, grow := some e.w }
def ReadsF (P : Program) (f : FuncId) (ss : List Sh) (e : Sh) (law : Sh.Ts ss → Option (List e.T)) : Prop :=
  ∀ x l, law x = some l → Does P f (Sh.args ss x 0) (Sh.entss ss x) (.slc (Sh.nes ss) 0 l.length .unk) (Sh.entss ss x ++ [fEnt e l])
def outF {P : Program} (fn : Func) (n0 : Nat) (e : Sh) (ex : Exit) (t : List AV) (h : Heap) : Option (List e.T) :=
  match okExit ex with
  | true => (match resA P t h fn.results.toList with
    | some [.slc b 0 n .unk] => if n0 ≤ b then (match h.get b with
      | .live { cells := .arr e' l, rw := true, grow := some sz } => (match Sh.same e' e with
        | some hh => if sz = e.w then ifK (decide (n = l.length)) (some (hh.down ▸ l)) else none
        | none => none)
      | _ => none) else none
    | some [.val (.slice none 0 0)] => some []
    | _ => none)
  | false => none
def codeLawF (P : Program) (env : Env P) (fuel : Nat) (L : Loops P env.Y) (fn : Func) (c : Code) (ss : List Sh) (e : Sh) (x : Sh.Ts ss) : Option (List e.T) :=
  codeK P env (Sh.nes ss) fuel L [] (.code c) (Sh.args ss x 0 ++ List.replicate (fn.ntmps - ss.length) (.val undef)) (Sh.entss ss x) fun ex t h => outF (P := P) fn (Sh.nes ss) e ex t h
theorem settleF {ρ ρ2 : Ren} {es : List Ent} {h1 : Heap} {w w2 : World} (hS : Sim ρ es w) (hro : ∀ b blk, Heap.get es b = .live blk → blk.rw = false) (hI : Inv ⟨es.length, ρ, es, w⟩ ρ2 h1 w2) {b : Nat} {blk : Blk} (hb : h1.get b = .live blk) (hrw : blk.rw = true) (hcells : ∀ l, blk.cells = .lit l → ∃ vs : List Value, l = vs.map .val) (hrows : ∀ s l, blk.cells ≠ .arrs s l) (hrows2 : ∀ l, blk.cells ≠ .rows l) {c : Nat × Nat × Nat} (hc : ρ2 b = some c) :
    Inv ⟨es.length, ρ, es, w⟩ (ρ.put es.length c) (es ++ [.live blk]) w2 := by
  have hset := settle hS hro hI
  have hfree : ρ es.length = none := hS.dom _ (by simp [Heap.get, List.getD_eq_getElem?_getD])
  have hle := Ren.le_put (c := c) hfree
  have hpn : (ρ.put es.length c) es.length = some c := by simp [Ren.put]
  have hpo : ∀ x, x ≠ es.length → (ρ.put es.length c) x = ρ x := fun x hx => by simp [Ren.put, hx]
  have ent : ∀ x xb, Heap.get (es ++ [.live blk]) x = .live xb → (x < es.length ∧ Heap.get es x = .live xb ∧ xb.rw = false) ∨ (x = es.length ∧ xb = blk) := fun x xb hx => by
    rw [get_snoc] at hx
    split at hx
    · rename_i hl; exact .inl ⟨hl, hx, hro x xb hx⟩
    · split at hx
      · rename_i h2; injection hx with hx; exact .inr ⟨h2, hx.symm⟩
      · cases hx
  have one : ∀ d, (ρ.put es.length c) es.length = some d → d = c := fun d hd => by rw [hpn] at hd; injection hd with hd; exact hd.symm
  have cellsN : CellsAt (ρ.put es.length c) w2 c.1 c.2.1 blk.cells := by
    have := hI.sim.cells b blk c hb hc
    cases hk : blk.cells with
    | lit l =>
      rw [hk] at this
      obtain ⟨vs, rfl⟩ := hcells l hk
      intro i v hi
      obtain ⟨cv, q1, q2⟩ := this i v hi
      refine ⟨cv, q1, ?_⟩
      simp only [List.getElem?_map, Option.map_eq_some_iff] at hi
      obtain ⟨u, _, rfl⟩ := hi
      simpa [VR] using q2
    | sym l => rw [hk] at this; exact this
    | rows l => exact absurd hk (hrows2 l)
    | arr s l => rw [hk] at this; exact this
    | arrs s l => exact absurd hk (hrows s l)
  have notown : ∀ i, ¬ Ctx.owned ⟨es.length, ρ, es, w⟩ i := by
    rintro i ⟨b', blk', c', _, hb', hr', _⟩
    rw [hro b' blk' hb'] at hr'; cases hr'
  have freshN : blk.solid c → w.heap.size ≤ c.1 := fun hs => by
    rcases hI.fresh b blk c hb hc hrw hs with h | h
    · exact h
    · exact absurd h (notown _)
  refine ⟨⟨?_, ?_, ?_, ?_, ?_, ?_, hset.sim.baseLe, hset.sim.old, ?_⟩, ?_, rfl, hI.os, hI.tape, hI.output, hI.size, hI.keep, ?_⟩
  · intro x xb hx
    rcases ent x xb hx with ⟨h1, h2, h3⟩ | ⟨h1, h2⟩
    · rw [hpo x (by omega)]; exact hset.sim.some_ x xb h2
    · subst h1; exact ⟨_, hpn⟩
  · intro x xb d hx hd
    rcases ent x xb hx with ⟨h1, h2, h3⟩ | ⟨h1, h2⟩
    · rw [hpo x (by omega)] at hd; exact (hset.sim.cells x xb d h2 hd).mono hle
    · subst h1; subst h2; rw [one d hd]; exact cellsN
  · intro x xb d hx hd hs
    rcases ent x xb hx with ⟨h1, h2, h3⟩ | ⟨h1, h2⟩
    · rw [hpo x (by omega)] at hd; exact hset.sim.inside x xb d h2 hd hs
    · subst h1; subst h2; rw [one d hd] at hs ⊢; exact hI.sim.inside b xb c hb hc hs
  · intro x xb d hx hd hr hs
    rcases ent x xb hx with ⟨h1, h2, h3⟩ | ⟨h1, h2⟩
    · rw [h3] at hr; cases hr
    · subst h1; subst h2; rw [one d hd] at hs ⊢; exact hI.sim.own b xb c hb hc hr hs
  · intro x y xb yb d e hx hy hne hd he hr hs hs'
    rcases ent x xb hx with ⟨h1, h2, h3⟩ | ⟨h1, h2⟩
    · rw [h3] at hr; cases hr
    · subst h1; subst h2; rw [one d hd] at hs ⊢
      rcases ent y yb hy with ⟨k1, k2, k3⟩ | ⟨k1, k2⟩
      · rw [hpo y (by omega)] at he
        have g1 := hS.inside y yb e k2 he hs'
        have g2 := freshN hs
        omega
      · exact absurd k1.symm hne
  · intro x hx
    rw [get_snoc] at hx
    split at hx
    · rename_i hl; rw [hpo x (by omega)]; exact hS.dom x hx
    · rename_i hl
      split at hx
      · cases hx
      · rename_i h2
        rw [hpo x h2]; exact hS.dom x (by simp [Heap.get, List.getD_eq_getElem?_getD, List.getElem?_eq_none (show es.length ≤ x by omega)])
  · intro x xb d hx hd hr hs
    rcases ent x xb hx with ⟨h1, h2, h3⟩ | ⟨h1, h2⟩
    · rw [h3] at hr; cases hr
    · subst h1; subst h2; rw [one d hd] at hs ⊢
      have := freshN hs
      have := hS.baseLe
      show ρ.base.heap.size ≤ _
      omega
  · intro x hx
    have hx : x < es.length := hx
    exact hpo x (by omega)
  · intro x xb d hx hd hr hs
    rcases ent x xb hx with ⟨h1, h2, h3⟩ | ⟨h1, h2⟩
    · rw [h3] at hr; cases hr
    · subst h1; subst h2; rw [one d hd] at hs ⊢; exact .inl (freshN hs)
theorem ReadsF.core {P : Program} (hm : P.follows .mixedOrders = true) {f : FuncId} {fn : Func} {c : Code} (hf : P.funcs[f]? = some fn) (hb : fn.body = some c) (hname : (fn.name == "runtime.NumGoroutine") = false)
    (env : Env P) (fuel : Nat) {L : Loops P env.Y} (hL : L.fit c) {ss : List Sh} {e : Sh} (hy : ∀ Γ, env.Y Γ) (A : List AV) (hA : A.length = ss.length) (x : Sh.Ts ss) (l : List e.T)
    (hxy : codeK P env (Sh.nes ss) fuel L [] (.code c) (A ++ List.replicate (fn.ntmps - ss.length) (.val undef)) (Sh.entss ss x) (fun ex t h => outF (P := P) fn (Sh.nes ss) e ex t h) = some l)
    (ρ : Ren) (w : World) (cargs : Array Value) (hsim : Sim ρ (Sh.entss ss x) w) (hargs : VRs ρ A cargs.toList) :
    Invokes P f cargs w fun en w' => ∃ ρ' cv, en = .returned cv ∧ VR ρ' (.slc (Sh.nes ss) 0 l.length .unk) cv ∧ Inv ⟨(Sh.entss ss x).length, ρ, Sh.entss ss x, w⟩ ρ' (Sh.entss ss x ++ [fEnt e l]) w' := by
  have hlen0 := entss_length ss x
  obtain ⟨ex, t1, h1, hk, hn1, hg⟩ := codeK_ok hm fuel L [] (.code c) _ _ _ c hL (.inr rfl) (by omega) hxy
  unfold outF at hk
  split at hk
  case h_2 => cases hk
  rename_i hex
  have hcall : (callFunc f cargs).run P w = .ok (.enter f cargs) w := by
    simp only [callFunc, program, Sem.run_bind, Sem.run, Result.andThen, hf]
    simp only [hname, hb, Option.isNone_some, Bool.false_eq_true, if_false]
    rfl
  have hlen := hargs.length
  rw [hA] at hlen
  have hro : ∀ b blk, Heap.get (Sh.entss ss x) b = .live blk → blk.rw = false := fun b blk hb => entss_norw hb
  have hI : Inv ⟨(Sh.entss ss x).length, ρ, Sh.entss ss x, w⟩ ρ (Sh.entss ss x) w :=
    ⟨hsim, fun _ _ => rfl, rfl, rfl, rfl, rfl, Nat.le_refl _, fun _ _ _ => rfl, fun b blk d hb hd hrw hs => by rw [hro b blk hb] at hrw; cases hrw⟩
  have hV : VRs ρ (A ++ List.replicate (fn.ntmps - ss.length) (.val undef)) ({ tmps := cargs ++ Array.replicate (fn.ntmps - cargs.size) undef, defers := [] } : Act).tmps.toList := by
    simp only [Array.toList_append, Array.toList_replicate]
    refine hargs.append ?_
    rw [hlen]
    simpa using VRs.replicate (ρ := ρ) (a := .val undef) (v := undef) (by simp [VR]) (fn.ntmps - cargs.size)
  have fin : ∀ vs, resA P t1 h1 fn.results.toList = some vs → (∀ ρ2 w2 cv, Inv ⟨(Sh.entss ss x).length, ρ, Sh.entss ss x, w⟩ ρ2 h1 w2 → VR ρ2 (resV vs) cv → ∃ ρ', VR ρ' (.slc (Sh.nes ss) 0 l.length .unk) cv ∧ Inv ⟨(Sh.entss ss x).length, ρ, Sh.entss ss x, w⟩ ρ' (Sh.entss ss x ++ [fEnt e l]) w2) →
      Invokes P f cargs w fun en w' => ∃ ρ' cv, en = .returned cv ∧ VR ρ' (.slc (Sh.nes ss) 0 l.length .unk) cv ∧ Inv ⟨(Sh.entss ss x).length, ρ, Sh.entss ss x, w⟩ ρ' (Sh.entss ss x ++ [fEnt e l]) w' := by
    intro vs hvs hend
    unfold Invokes
    rw [hcall]
    simp only
    refine calls_of_runs hf hb hg hex hlen0 (hy _) hI hV fun ρ2 w2 a2 g2 g3 => ?_
    obtain ⟨us, cv, k1, k2, k3⟩ := run_results_list (P := P) g2 g3 hvs
    obtain ⟨ρ', h7, h8⟩ := hend ρ2 w2 cv g2 (k3 ρ2 vs k2)
    exact ⟨cv, k1, ρ', cv, rfl, h7, h8⟩
  split at hk
  · rename_i b n hvs
    split at hk
    case isFalse => cases hk
    rename_i hbn
    split at hk
    case h_2 => cases hk
    rename_i e' l' sz hget
    split at hk
    case h_2 => cases hk
    rename_i hh _
    obtain ⟨hh⟩ := hh
    subst hh
    split at hk
    case isFalse => cases hk
    rename_i hsz
    subst hsz
    obtain ⟨hn, hk⟩ := ifK_some hk
    have hn : n = l'.length := by simpa using hn
    injection hk with hk
    have hk : l' = l := hk
    subst hk
    refine fin _ hvs fun ρ2 w2 cv g2 hv => ?_
    obtain ⟨d, hd⟩ := g2.sim.some_ b _ hget
    have hS := settleF hsim hro g2 hget rfl (fun _ => by simp) (fun _ _ => by simp) (fun _ => by simp) hd
    refine ⟨_, ?_, hS⟩
    rw [hlen0]
    have hv : VR ρ2 (.slc b 0 n .unk) cv := hv
    simp only [VR] at hv ⊢
    rw [← hn]
    rcases hv with ⟨cb, co, cc, c', q1, q2, q3, q4⟩ | hv
    · rw [hd] at q1
      exact .inl ⟨cb, co, cc, c', by simpa [Ren.put] using q1, q2, q3, q4⟩
    · exact .inr hv
  · rename_i hvs
    injection hk with hk
    subst hk
    refine fin _ hvs fun ρ2 w2 cv g2 hv => ?_
    have hset := settle hsim hro g2
    have hfree : Heap.get (Sh.entss ss x) (Sh.entss ss x).length = .free := by simp [Heap.get, List.getD_eq_getElem?_getD]
    obtain ⟨q1, q2⟩ := hset.addEmpty (Nat.le_refl _) hfree (.arr e []) rfl (fun _ _ _ _ => by intro i v hi; simp [Sh.flatl] at hi) (some e.w)
    refine ⟨_, ?_, q2.congr fun z => ?_⟩
    · have hv : VR ρ2 (.val (.slice none 0 0)) cv := hv
      simp only [VR] at hv ⊢
      exact .inr ⟨rfl, none, hv⟩
    · rw [get_snoc, Heap.get_upd]
      by_cases h1 : z = (Sh.entss ss x).length
      · rw [if_pos h1, if_neg (by omega), if_pos h1]; rfl
      · rw [if_neg h1]
        split
        · rfl
        · simp [Heap.get, List.getD_eq_getElem?_getD, List.getElem?_eq_none (show (Sh.entss ss x).length ≤ z by omega)]
  · cases hk
theorem ReadsF.of_code {P : Program} (hm : P.follows .mixedOrders = true) {f : FuncId} {fn : Func} {c : Code} (hf : P.funcs[f]? = some fn) (hb : fn.body = some c) (hname : (fn.name == "runtime.NumGoroutine") = false)
    (env : Env P) (fuel : Nat) {L : Loops P env.Y} (hL : L.fit c) {ss : List Sh} {e : Sh} (hy : ∀ Γ, env.Y Γ := by exact fun _ => True.intro) : ReadsF P f ss e (codeLawF P env fuel L fn c ss e) := by
  intro x l hxy ρ w cargs hsim hargs
  exact ReadsF.core hm hf hb hname env fuel hL hy _ (args_length ss x 0) x l hxy ρ w cargs hsim hargs
theorem ReadsF.to {P : Program} {f : FuncId} {ss : List Sh} {e : Sh} {law law' : Sh.Ts ss → Option (List e.T)} (h : ReadsF P f ss e law) (he : ∀ x, law x = law' x) : ReadsF P f ss e law' := fun x y hxy => h x y (by rw [he]; exact hxy)
def readsFS {P : Program} {β : Type} (ss : List Sh) (e : Sh) (law : Sh.Ts ss → Option (List e.T)) (H : Nat → Ent) (new : Nat) (args : List AV) (K : Eff → Option β) : Option β :=
  match viewArgs H ss args with
  | some (x, bs, c) => ifK c ((law x).bind fun l => K { rb := bs, wb := [(new, fEnt e l)], nw := 1, val := .slc new 0 l.length .unk })
  | none => none
def ReadsF.summ {P : Program} {f : FuncId} {ss : List Sh} {e : Sh} {law : Sh.Ts ss → Option (List e.T)} (hr : ReadsF P f ss e law) : Summ P where
  f := f
  S := fun H new args K => readsFS (P := P) ss e law H new args K
  ok := by
    intro β H new args K r hs
    unfold readsFS at hs
    split at hs
    case h_2 => cases hs
    rename_i x bs c hv
    obtain ⟨hc, hs⟩ := ifK_some hs
    rw [Option.bind_eq_some_iff] at hs
    obtain ⟨l, hl, hs⟩ := hs
    refine ⟨_, hs, fun Γ ρ h w cargs hI hargs hH hn hfree => ?_⟩
    obtain ⟨ρg, _, h1, h2, _⟩ := sim_views hI.sim.baseLe hI.sim.old (viewArgs_ok (Q := fun _ => True) hI.sim ss args _ hargs x bs c hv hH (fun _ _ => trivial) hc)
    refine (hr x l hl ρg w cargs h2 h1).mono fun en w' ⟨ρg', cv, he, hvv, hJ⟩ => ?_
    obtain ⟨ρ', g1, g2, g3⟩ := after_pure hI (hg := Sh.entss ss x) (fun b blk hb => entss_norw hb) (es := [fEnt e l]) rfl hJ hn hfree
    refine ⟨ρ', cv, he, g1, ?_, g3⟩
    have q := g2 0 (by simp)
    simp only [Nat.add_zero, entss_length] at q
    simp only [VR] at hvv ⊢
    rw [q]; exact hvv
end Go.Ab
namespace Go.Ab
def isSlcI (P : Program) (t : TypeId) : Bool := match P.info? t with
  | some i => (match i.desc with
    | .slice _ => true
    | _ => false)
  | none => false
theorem isSlcI_ok {P : Program} {t : TypeId} (h : isSlcI P t = true) : ∃ i e, P.info? t = some i ∧ i.desc = .slice e := by
  unfold isSlcI at h
  split at h
  · rename_i i hi
    split at h
    · rename_i e he; exact ⟨i, e, hi, he⟩
    · cases h
  · cases h
def valueOfS (P : Program) {β : Type} (H : Nat → Ent) (new : Nat) (args : List AV) (K : Eff → Option β) : Option β :=
  match args with
  | [.ifc t (.slc b o n c)] => if isSlcI P t = true then K { wb := [(new, newBlk [.slc b o n c])], nw := 1, val := .agg [.val (.pointer (some ⟨P.globals.size, t, none⟩)), .ptr new 0, .val (.int .u64 151)] } else none
  | _ => none
def valueOfSumm {P : Program} (f : FuncId) {fn : Func} (hf : P.funcs[f]? = some fn) (hname : (fn.name == "runtime.NumGoroutine") = false) (hb : fn.body.isNone = true) (hn : Extern.findNext fn = none) (he : Extern.find fn = some (fun args => Extern.ReflectliteValue.unpack (args.getD 0 (.tuple #[])))) : Summ P where
  f := f
  S := fun H new args K => valueOfS P H new args K
  ok := by
    intro β H new args K r hs
    unfold valueOfS at hs
    split at hs
    case h_2 => cases hs
    rename_i t b o n c
    split at hs
    case isFalse => cases hs
    rename_i ht
    obtain ⟨i, e, hi, hd⟩ := isSlcI_ok ht
    refine ⟨_, hs, fun Γ ρ h w cargs hI hargs hH hn0 hfree => ?_⟩
    obtain ⟨l, hl⟩ : ∃ l, cargs.toList = l := ⟨_, rfl⟩
    rw [hl] at hargs
    match l, hargs with
    | [x], hx =>
      simp only [VRs, VR] at hx
      obtain ⟨⟨v', rfl, hv⟩, _⟩ := hx
      have hc : cargs = #[.iface t v'] := Array.toList_inj.1 hl
      subst hc
      obtain ⟨p, m, c', rfl⟩ : ∃ p m c', v' = .slice p m c' := by
        rcases VR.slc_cases hv with ⟨cb, co, cc, c', _, _, rfl⟩ | ⟨_, a, rfl⟩
        · exact ⟨_, _, _, rfl⟩
        · exact ⟨_, _, _, rfl⟩
      obtain ⟨ρ', h1, h2, h3⟩ := alloc_lit hI hn0 (hfree new (Nat.le_refl _) (by simp)) t (l := [.slc b o n c]) (cs := #[.slice p m c']) (by simp only [VRs]; exact ⟨hv, trivial⟩)
      unfold Invokes
      rw [run_callFunc_extern hf hname hb hn he]
      have hr := Go.Lib.run_valueOf_slice (P := P) t e i hi hd p m c' w
      have hg : (#[Value.iface t (.slice p m c')].getD 0 (.tuple #[])) = .iface t (.slice p m c') := rfl
      simp only [hg, hr, Result.andThen]
      refine ⟨ρ', _, rfl, h1, ?_, h3⟩
      simp only [VR]
      refine ⟨_, rfl, ?_⟩
      simp only [VRs, VR]
      exact ⟨rfl, ⟨_, _, _, h2, rfl⟩, trivial, trivial⟩
    | [], hx => simp [VRs] at hx
    | _ :: _ :: _, hx => simp [VRs] at hx
def firstSlc : Ent → Option AV
  | .live blk => (match blk.cells with
    | .lit (.slc b o n c :: _) => some (.slc b o n c)
    | _ => none)
  | _ => none
def valueLenS (P : Program) {β : Type} (H : Nat → Ent) (new : Nat) (args : List AV) (K : Eff → Option β) : Option β :=
  match args with
  | [.agg [.val (.pointer (some ⟨g, t, none⟩)), .ptr b 0, .val (.int .u64 151)]] => if isSlcI P t = true ∧ P.packed t = false ∧ g = P.globals.size then (match firstSlc (H b) with
    | some (.slc _ _ n _) => K { rb := [b], val := .val (.int .i64 (n : Int)) }
    | _ => none) else none
  | _ => none
def valueLenSumm {P : Program} (f : FuncId) {fn : Func} (hf : P.funcs[f]? = some fn) (hname : (fn.name == "runtime.NumGoroutine") = false) (hb : fn.body.isNone = true) (hn : Extern.findNext fn = none) (he : Extern.find fn = some (Extern.ReflectliteValue.method (Extern.ReflectliteValue.valueError "reflectlite.Value.Len" 0) Extern.ReflectliteValue.len)) : Summ P where
  f := f
  S := fun H new args K => valueLenS P H new args K
  ok := by
    intro β H new args K r hs
    unfold valueLenS at hs
    split at hs
    case h_2 => cases hs
    rename_i g t b
    split at hs
    case isFalse => cases hs
    rename_i hc
    obtain ⟨ht, hpk, rfl⟩ := hc
    obtain ⟨i, e, hi, hd⟩ := isSlcI_ok ht
    split at hs
    case h_2 => cases hs
    rename_i b' o' n' c' hcell
    refine ⟨_, hs, fun Γ ρ h w cargs hI hargs hH hn0 hfree => ?_⟩
    obtain ⟨l, hl⟩ : ∃ l, cargs.toList = l := ⟨_, rfl⟩
    rw [hl] at hargs
    match l, hargs with
    | [x], hx =>
      simp only [VRs, VR] at hx
      obtain ⟨⟨cs', rfl, hv⟩, _⟩ := hx
      obtain ⟨l2, hl2⟩ : ∃ l, cs'.toList = l := ⟨_, rfl⟩
      rw [hl2] at hv
      match l2, hv with
      | [x1, x2, x3], hv =>
        simp only [VRs, VR] at hv
        obtain ⟨rfl, ⟨cb, co, cc, hρ, rfl⟩, rfl, _⟩ := hv
        have hc1 : cs' = #[.pointer (some ⟨P.globals.size, t, none⟩), .pointer (some ⟨cb, co + 0, none⟩), .int .u64 151] := Array.toList_inj.1 hl2
        subst hc1
        have hc : cargs = #[.agg #[.pointer (some ⟨P.globals.size, t, none⟩), .pointer (some ⟨cb, co + 0, none⟩), .int .u64 151]] := Array.toList_inj.1 hl
        subst hc
        have hb' := hH b (by simp)
        unfold firstSlc at hcell
        split at hcell
        case h_2 => cases hcell
        rename_i blk hblk
        split at hcell
        case h_2 => cases hcell
        rename_i b2 o2 n2 c2 rest hcells
        injection hcell with hcell
        have hlive : h.get b = .live blk := by rw [hb']; exact hblk
        have hat := hI.sim.cells b blk _ hlive hρ
        rw [hcells] at hat
        obtain ⟨cv, k1, k2⟩ := hat 0 _ rfl
        rw [hcell] at k2
        obtain ⟨p, c3, rfl⟩ : ∃ p c3, cv = .slice p n' c3 := by
          rcases VR.slc_cases k2 with ⟨_, _, _, c3, _, _, rfl⟩ | ⟨rfl, a, rfl⟩
          · exact ⟨_, _, rfl⟩
          · exact ⟨_, _, rfl⟩
        unfold Invokes
        rw [run_callFunc_extern hf hname hb hn he]
        have hr := Go.Lib.run_valueLen_slice (P := P) t e i hi hd hpk ⟨cb, co + 0, none⟩ p n' c3 w k1
        simp only [typeHandle] at hr
        rw [hr]
        simp only [Result.andThen]
        exact ⟨ρ, _, rfl, ρ.le_refl, by simp [VR], by simpa [Heap.upds] using hI⟩
      | [], hv => simp [VRs] at hv
      | [_], hv => simp [VRs] at hv
      | [_, _], hv => simp [VRs] at hv
      | _ :: _ :: _ :: _ :: _, hv => simp [VRs] at hv
    | [], hx => simp [VRs] at hx
    | _ :: _ :: _, hx => simp [VRs] at hx
def unifc (t : TypeId) : List AV → Option (List AV)
  | [] => some []
  | .ifc t' a :: l => if t' = t then (unifc t l).map (a :: ·) else none
  | _ :: _ => none
theorem VRs.unifc {ρ : Ren} {t : TypeId} : ∀ {as bs : List AV} {vs : List Value}, Go.Ab.unifc t as = some bs → VRs ρ as vs → ∃ us, vs = us.map (.iface t) ∧ VRs ρ bs us
  | [], bs, [], h, _ => by simp [Go.Ab.unifc] at h; subst h; exact ⟨[], rfl, trivial⟩
  | [], _, _ :: _, _, h => by simp [VRs] at h
  | a :: as, bs, vs, h, hv => by
    unfold Go.Ab.unifc at h
    split at h
    · rename_i heq; cases heq
    · rename_i t' a' l heq
      injection heq with h1 h2
      subst h1; subst h2
      split at h
      case isFalse => cases h
      rename_i ht
      subst ht
      simp only [Option.map_eq_some_iff] at h
      obtain ⟨l', hl, rfl⟩ := h
      match vs, hv with
      | v :: vs, hv =>
        simp only [VRs, VR] at hv
        obtain ⟨⟨v', rfl, h1⟩, h2⟩ := hv
        obtain ⟨us, rfl, h3⟩ := VRs.unifc hl h2
        exact ⟨v' :: us, rfl, by simp only [VRs]; exact ⟨h1, h3⟩⟩
      | [], hv => simp [VRs] at hv
    · cases h
theorem VRs.ifc {ρ : Ren} {t : TypeId} : ∀ {bs : List AV} {us : List Value}, VRs ρ bs us → VRs ρ (bs.map (.ifc t)) (us.map (.iface t))
  | [], [], _ => trivial
  | b :: bs, u :: us, h => by
    simp only [VRs, List.map_cons, VR] at *
    exact ⟨⟨u, rfl, h.1⟩, VRs.ifc h.2⟩
  | [], _ :: _, h => by simp [VRs] at h
  | _ :: _, [], h => by simp [VRs] at h
def argsI (t : TypeId) (ss : List Sh) (g : FuncId) (cs : List Sh) (x : Sh.Ts ss) : List AV := (Sh.args ss x 0).map (.ifc t) ++ [.fn (.func g) [] (boxPtrs cs (Sh.nes ss + Sh.nes cs))]
def ReadsI (P : Program) (f : FuncId) (t : TypeId) (ss : List Sh) (g : FuncId) (cs rs : List Sh) (law : Sh.Ts ss → Sh.Ts cs → Option (Sh.Ts rs)) : Prop :=
  ∀ x xs y, law x xs = some y → Does P f (argsI t ss g cs x) (heapC ss cs x xs) (outV rs y 0) (heapC ss cs x xs)
def codeLawI (P : Program) (env : Env P) (fuel : Nat) (L : Loops P env.Y) (fn : Func) (c : Code) (t : TypeId) (ss : List Sh) (g : FuncId) (cs rs : List Sh) (x : Sh.Ts ss) (xs : Sh.Ts cs) : Option (Sh.Ts rs) :=
  codeK P env (Sh.nes ss + Sh.nes cs + cs.length) fuel L [] (.code c) (argsI t ss g cs x ++ List.replicate (fn.ntmps - (ss.length + 1)) (.val undef)) (heapC ss cs x xs) fun e t h => outK (P := P) fn rs e t h
theorem ReadsI.of_code {P : Program} (hm : P.follows .mixedOrders = true) {f : FuncId} {fn : Func} {c : Code} (hf : P.funcs[f]? = some fn) (hb : fn.body = some c) (hname : (fn.name == "runtime.NumGoroutine") = false)
    (env : Env P) (fuel : Nat) {L : Loops P env.Y} (hL : L.fit c) {t : TypeId} {ss : List Sh} {g : FuncId} {cs rs : List Sh} (hrs : Sh.nes rs = 0) (hy : ∀ Γ, env.Y Γ := by exact fun _ => True.intro) : ReadsI P f t ss g cs rs (codeLawI P env fuel L fn c t ss g cs rs) := by
  intro x xs y hxy ρ w cargs hsim hargs
  unfold codeLawI at hxy
  have hlen0 := heapC_length ss cs x xs
  obtain ⟨e, t1, h1, hk, hn1, hg⟩ := codeK_ok hm fuel L [] (.code c) _ _ _ c hL (.inr rfl) (by omega) hxy
  unfold outK at hk
  split at hk
  case h_2 => cases hk
  rename_i hex
  split at hk
  case h_2 => cases hk
  rename_i vs hvs
  split at hk
  case h_2 => cases hk
  rename_i y' bs cc hview
  obtain ⟨hcc, hk⟩ := ifK_some hk
  injection hk with hk; subst hk
  unfold Invokes
  have hcall : (callFunc f cargs).run P w = .ok (.enter f cargs) w := by
    simp only [callFunc, program, Sem.run_bind, Sem.run, Result.andThen, hf]
    simp only [hname, hb, Option.isNone_some, Bool.false_eq_true, if_false]
    rfl
  rw [hcall]
  simp only
  have hlen := hargs.length
  simp only [argsI, List.length_append, List.length_map, args_length, List.length_singleton] at hlen
  have hro : ∀ b blk, Heap.get (heapC ss cs x xs) b = .live blk → blk.rw = false := fun b blk hb => heapC_norw hb
  have hI : Inv ⟨(heapC ss cs x xs).length, ρ, heapC ss cs x xs, w⟩ ρ (heapC ss cs x xs) w :=
    ⟨hsim, fun _ _ => rfl, rfl, rfl, rfl, rfl, Nat.le_refl _, fun _ _ _ => rfl, fun b blk d hb hd hrw hs => by rw [hro b blk hb] at hrw; cases hrw⟩
  have hV : VRs ρ (argsI t ss g cs x ++ List.replicate (fn.ntmps - (ss.length + 1)) (.val undef)) ({ tmps := cargs ++ Array.replicate (fn.ntmps - cargs.size) undef, defers := [] } : Act).tmps.toList := by
    simp only [Array.toList_append, Array.toList_replicate]
    refine hargs.append ?_
    rw [hlen]
    simpa using VRs.replicate (ρ := ρ) (a := .val undef) (v := undef) (by simp [VR]) (fn.ntmps - cargs.size)
  refine calls_of_runs hf hb hg hex hlen0 (hy _) hI hV fun ρ2 w2 a2 g2 g3 => ?_
  obtain ⟨us, cv, k1, k2, k3⟩ := run_results_list (P := P) g2 g3 hvs
  have hva := viewArgs_ok (Q := fun _ => True) g2.sim rs vs us k2 y' bs cc hview (fun b _ => rfl) (fun _ _ => trivial) hcc
  have hout : VR ρ (outV rs y' 0) cv := by
    obtain ⟨c0, hc0, hvv⟩ := hva
    have : c0 = [] := List.length_eq_zero_iff.1 (by rw [hc0, hrs])
    subst this
    refine k3 ρ _ ?_
    have := (hvv ⟨ρ.f, ρ2.base⟩ 0 rfl (fun i d hi => by simp at hi)).1
    exact args_shift rs y' 0 _ (fun k hk => by omega) us this
  have hset := settle hsim hro g2
  exact ⟨cv, k1, ρ, cv, rfl, hout, hset⟩
theorem ReadsI.to {P : Program} {f : FuncId} {t : TypeId} {ss : List Sh} {g : FuncId} {cs rs : List Sh} {law law' : Sh.Ts ss → Sh.Ts cs → Option (Sh.Ts rs)} (h : ReadsI P f t ss g cs rs law) (he : ∀ x xs, law x xs = law' x xs) : ReadsI P f t ss g cs rs law' := fun x xs y hxy => h x xs y (by rw [he]; exact hxy)
def readsIS {P : Program} {β : Type} (t : TypeId) (ss : List Sh) (g : FuncId) (cs rs : List Sh) (law : Sh.Ts ss → Sh.Ts cs → Option (Sh.Ts rs)) (H : Nat → Ent) (new : Nat) (args : List AV) (K : Eff → Option β) : Option β :=
  match args.drop ss.length with
  | [.fn (.func g') [] caps] => if g' = g then (match unifc t (args.take ss.length) with
    | some as => (match viewArgs H ss as with
      | some (x, bs, c) => (match viewBoxes H cs caps with
        | some (xs, bs', c') => ifK (c && c') ((law x xs).bind fun y => K { rb := bs ++ bs', val := outV rs y 0 })
        | none => none)
      | none => none)
    | none => none) else none
  | _ => none
def ReadsI.summ {P : Program} {f : FuncId} {t : TypeId} {ss : List Sh} {g : FuncId} {cs rs : List Sh} {law : Sh.Ts ss → Sh.Ts cs → Option (Sh.Ts rs)} (hr : ReadsI P f t ss g cs rs law) (hrs : Sh.nes rs = 0) : Summ P where
  f := f
  S := fun H new args K => readsIS (P := P) t ss g cs rs law H new args K
  ok := by
    intro β H new args K r hs
    unfold readsIS at hs
    split at hs
    case h_2 => cases hs
    rename_i g' caps hdrop
    split at hs
    case isFalse => cases hs
    rename_i hg
    subst hg
    split at hs
    case h_2 => cases hs
    rename_i as has
    split at hs
    case h_2 => cases hs
    rename_i x bs c hv
    split at hs
    case h_2 => cases hs
    rename_i xs bs' c' hvb
    obtain ⟨hc, hs⟩ := ifK_some hs
    simp only [Bool.and_eq_true] at hc
    rw [Option.bind_eq_some_iff] at hs
    obtain ⟨y, hy, hs⟩ := hs
    refine ⟨_, hs, fun Γ ρ h w cargs hI hargs hH hn hfree => ?_⟩
    have hH1 : ∀ b ∈ bs, h.get b = H b := fun b hb => hH b (List.mem_append.2 (.inl hb))
    have hH2 : ∀ b ∈ bs', h.get b = H b := fun b hb => hH b (List.mem_append.2 (.inr hb))
    have hsplit : args = args.take ss.length ++ [.fn (.func g') [] caps] := by rw [← hdrop, List.take_append_drop]
    rw [hsplit] at hargs
    obtain ⟨v1, v2, hv12, hr1, hr2⟩ := VRs.split _ _ _ hargs
    cases v2 with
    | nil => simp [VRs] at hr2
    | cons fv rest =>
      simp only [VRs] at hr2
      have hrest : rest = [] := by
        cases rest with
        | nil => rfl
        | cons => simp [VRs] at hr2
      subst hrest
      have hfv := hr2.1
      simp only [VR] at hfv
      obtain ⟨fs', cs', rfl, hfs, hcs⟩ := hfv
      obtain ⟨u1, rfl, hr3⟩ := VRs.unifc has hr1
      obtain ⟨c1, n1, f1⟩ := viewArgs_ok (Q := fun _ => True) hI.sim ss _ _ hr3 x bs c hv hH1 (fun _ _ => trivial) hc.1
      obtain ⟨c2, d2, n2, m2, f2⟩ := viewBoxes_ok hI.sim cs caps _ hcs xs bs' c' hvb hH2 hc.2
      let ρg : Ren := ⟨fun b => (c1 ++ (c2 ++ d2))[b]?, ρ.base⟩
      obtain ⟨a1, a2⟩ := f1 ρg 0 rfl fun i d hi => by
        show (c1 ++ (c2 ++ d2))[0 + i]? = _
        rw [Nat.zero_add, List.getElem?_append_left (List.getElem?_eq_some_iff.1 hi).1]; exact hi
      obtain ⟨b1, b2, b3⟩ := f2 ρg (Sh.nes ss) (Sh.nes ss + Sh.nes cs) rfl (fun i d hi => by
        show (c1 ++ (c2 ++ d2))[Sh.nes ss + i]? = _
        rw [List.getElem?_append_right (by omega), n1, Nat.add_sub_cancel_left, List.getElem?_append_left (List.getElem?_eq_some_iff.1 hi).1]; exact hi) (fun i d hi => by
        show (c1 ++ (c2 ++ d2))[Sh.nes ss + Sh.nes cs + i]? = _
        rw [List.getElem?_append_right (by omega), n1, List.getElem?_append_right (by omega), n2, show Sh.nes ss + Sh.nes cs + i - Sh.nes ss - Sh.nes cs = i by omega]; exact hi)
      have e1 := entss_length ss x
      have e2 := entss_length cs xs
      have e3 := boxes_length cs xs (Sh.nes ss)
      have hsim : Sim ρg (heapC ss cs x xs) w := by
        refine sim_ro hI.sim.baseLe hI.sim.old (fun b blk hb => heapC_norw hb) (fun b blk hb => ?_) (fun b hb => ?_)
        · have hb := heap_mem hb
          unfold heapC at hb
          by_cases h1 : b < Sh.nes ss
          · rw [List.getElem?_append_left (by omega)] at hb
            obtain ⟨d, h3, h4, _⟩ := a2 b blk hb
            exact ⟨d, by show (c1 ++ (c2 ++ d2))[b]? = _; rw [List.getElem?_append_left (by omega)]; exact h3, h4⟩
          · rw [List.getElem?_append_right (by omega)] at hb
            by_cases h2 : b - Sh.nes ss < Sh.nes cs
            · rw [List.getElem?_append_left (by omega)] at hb
              obtain ⟨d, h3, h4⟩ := b2 _ blk hb
              refine ⟨d, ?_, h4⟩
              show (c1 ++ (c2 ++ d2))[b]? = _
              rw [List.getElem?_append_right (by omega), List.getElem?_append_left (by omega), n1, ← e1]; exact h3
            · rw [List.getElem?_append_right (by omega)] at hb
              obtain ⟨d, h3, h4⟩ := b3 _ blk hb
              refine ⟨d, ?_, h4⟩
              show (c1 ++ (c2 ++ d2))[b]? = _
              rw [List.getElem?_append_right (by omega), List.getElem?_append_right (by omega), n1, n2, ← e1, ← e2]; exact h3
        · show (c1 ++ (c2 ++ d2))[b]? = none
          refine List.getElem?_eq_none ?_
          rcases Nat.lt_or_ge b (heapC ss cs x xs).length with h9 | h9
          · exfalso
            obtain ⟨blk, k1, _⟩ := heapC_ro (ss := ss) (cs := cs) (x := x) (xs := xs) (heapC ss cs x xs)[b] (List.getElem_mem h9)
            simp only [Heap.get, List.getD_eq_getElem?_getD, List.getElem?_eq_getElem h9, Option.getD_some, k1] at hb
            cases hb
          · rw [heapC_length] at h9
            simp; omega
      have hargsg : VRs ρg (argsI t ss g' cs x) cargs.toList := by
        rw [hv12]
        refine (VRs.ifc a1).append ?_
        simp only [VRs, VR]
        exact ⟨⟨fs', cs', rfl, hfs.nil_any, b1⟩, trivial⟩
      refine (hr x xs y hy ρg w cargs hsim hargsg).mono fun e w' ⟨ρg', cv, he, hvv, hJ⟩ => ?_
      obtain ⟨ρ', g1, g2, g3⟩ := after_pure hI (hg := heapC ss cs x xs) (fun b blk hb => heapC_norw hb) (es := []) rfl (by rw [List.append_nil]; exact hJ) hn (fun z h1 h2 => by simp at h2; omega)
      exact ⟨ρ', cv, he, g1, outV_shift rs y 0 0 (fun k hk => by omega) hvv, g3⟩
end Go.Ab
namespace Go.Ab
mutual
def noYA : AV → Bool
  | .fn f a b => (match f with
    | .yield _ => false
    | _ => true) && (noYL a && noYL b)
  | .agg l => noYL l
  | .tup l => noYL l
  | .ifc _ v => noYA v
  | .any => true
  | .val _ => true
  | .ptr .. => true
  | .elt .. => true
  | .slc .. => true
def noYL : List AV → Bool
  | [] => true
  | a :: l => noYA a && noYL l
end
def noYE : List Ent → Bool
  | [] => true
  | .live b :: l => (match b.cells with
    | .lit l => noYL l
    | _ => true) && noYE l
  | _ :: l => noYE l
mutual
theorem VR.noY {ρ ρ' : Ren} (hf : ∀ b, ρ' b = ρ b) : ∀ (v : AV) (cv : Value), noYA v = true → VR ρ v cv → VR ρ' v cv
  | .any, _, _, _ => by simp [VR]
  | .val v, cv, _, h => by simpa [VR] using h
  | .ptr b o, cv, _, h => by simpa only [VR, hf] using h
  | .elt b o i w f, cv, _, h => by simpa only [VR, hf] using h
  | .slc b o n (.exact c), cv, _, h => by simpa only [VR, hf] using h
  | .slc b o n .unk, cv, _, h => by simpa only [VR, hf] using h
  | .slc b o n .low, cv, _, h => by simpa only [VR, hf] using h
  | .slc b o n .part, cv, _, h => by simpa only [VR, hf] using h
  | .slc b o n .nn, cv, _, h => by simpa only [VR, hf] using h
  | .fn f a b, cv, hn, h => by
    simp only [noYA, Bool.and_eq_true] at hn
    simp only [VR] at h ⊢
    obtain ⟨x, y, h1, h2, h3⟩ := h
    refine ⟨x, y, ?_, VRs.noY hf a _ hn.2.1 h2, VRs.noY hf b _ hn.2.2 h3⟩
    cases f with
    | yield k => simp at hn
    | _ => exact h1
  | .agg l, cv, hn, h => by
    simp only [noYA] at hn
    simp only [VR] at h ⊢
    obtain ⟨x, h1, h2⟩ := h
    exact ⟨x, h1, VRs.noY hf l _ hn h2⟩
  | .tup l, cv, hn, h => by
    simp only [noYA] at hn
    simp only [VR] at h ⊢
    obtain ⟨x, h1, h2⟩ := h
    exact ⟨x, h1, VRs.noY hf l _ hn h2⟩
  | .ifc t v, cv, hn, h => by
    simp only [noYA] at hn
    simp only [VR] at h ⊢
    obtain ⟨x, h1, h2⟩ := h
    exact ⟨x, h1, VR.noY hf v _ hn h2⟩
theorem VRs.noY {ρ ρ' : Ren} (hf : ∀ b, ρ' b = ρ b) : ∀ (l : List AV) (cs : List Value), noYL l = true → VRs ρ l cs → VRs ρ' l cs
  | [], [], _, _ => by simp [VRs]
  | a :: l, v :: cs, hn, h => by
    simp only [noYL, Bool.and_eq_true] at hn
    simp only [VRs] at h ⊢
    exact ⟨VR.noY hf a v hn.1 h.1, VRs.noY hf l cs hn.2 h.2⟩
  | [], _ :: _, _, h => by simp [VRs] at h
  | _ :: _, [], _, h => by simp [VRs] at h
end
theorem noYL_get : ∀ (l : List AV) (i : Nat) (a : AV), noYL l = true → l[i]? = some a → noYA a = true
  | [], i, a, _, h => by simp at h
  | x :: l, 0, a, hn, h => by simp only [noYL, Bool.and_eq_true] at hn; simp at h; subst h; exact hn.1
  | x :: l, i + 1, a, hn, h => by simp only [noYL, Bool.and_eq_true] at hn; exact noYL_get l i a hn.2 (by simpa using h)
theorem noYE_get : ∀ (l : List Ent) (i : Nat) (b : Blk), noYE l = true → l[i]? = some (.live b) → ∀ cs, b.cells = .lit cs → noYL cs = true
  | [], i, b, _, h => by simp at h
  | e :: l, 0, b, hn, h => by
    simp at h; subst h
    intro cs hcs
    simp only [noYE, hcs, Bool.and_eq_true] at hn; exact hn.1
  | e :: l, i + 1, b, hn, h => by
    have hn : noYE l = true := by
      cases e with
      | live b' => simp only [noYE, Bool.and_eq_true] at hn; exact hn.2
      | free => simpa [noYE] using hn
      | dead => simpa [noYE] using hn
    exact noYE_get l i b hn (by simpa using h)
theorem RowIn.heap {W W' : World} (hW : W'.heap = W.heap) {cv : Value} {r : List Value} (h : RowIn W cv r) : RowIn W' cv r := by
  have hc : ∀ a, W'.cell? a = W.cell? a := fun a => by simp [World.cell?, hW]
  rcases h with h | ⟨b, o, c, h1, h2, h3⟩
  · exact .inl h
  · exact .inr ⟨b, o, c, h1, h2, fun j v hj => by rw [hc]; exact h3 j v hj⟩
theorem Sim.noY {ρ ρ' : Ren} {h : Heap} {w : World} (hS : Sim ρ h w) (hf : ∀ b, ρ' b = ρ b) (hb : ρ'.base.heap = ρ.base.heap) (hn : noYE h = true) : Sim ρ' h w := by
  refine ⟨fun b blk hl => by rw [hf]; exact hS.some_ b blk hl, fun b blk c hl hc => ?_, fun b blk c hl hc => hS.inside b blk c hl (by rw [← hf]; exact hc), fun b blk c hl hc => hS.own b blk c hl (by rw [← hf]; exact hc),
    fun b b' blk blk' c c' hl hl' hne hc hc' => hS.apart b b' blk blk' c c' hl hl' hne (by rw [← hf]; exact hc) (by rw [← hf]; exact hc'), fun b hl => by rw [hf]; exact hS.dom b hl, by rw [hb]; exact hS.baseLe, fun i hi => by rw [hb]; exact hS.old i (by rw [← hb]; exact hi), fun b blk c hl hc hr hs => by rw [hb]; exact hS.above b blk c hl (by rw [← hf]; exact hc) hr hs⟩
  have := hS.cells b blk c hl (by rw [← hf]; exact hc)
  cases hk : blk.cells with
  | lit l =>
    rw [hk] at this
    intro i v hi
    obtain ⟨cv, h1, h2⟩ := this i v hi
    exact ⟨cv, h1, VR.noY hf v cv (noYL_get l i v (noYE_get h b blk hn (heap_mem hl) l hk) hi) h2⟩
  | sym l => rw [hk] at this; exact this
  | arr s l => rw [hk] at this; exact this
  | rows l =>
    rw [hk] at this
    intro i r hi
    obtain ⟨cv, h1, h2⟩ := this i r hi
    exact ⟨cv, h1, h2.heap hb⟩
  | arrs s l =>
    rw [hk] at this
    intro i r hi
    obtain ⟨cv, h1, h2⟩ := this i r hi
    exact ⟨cv, h1, h2.heap hb⟩
theorem okA_mono_aux {m n : Nat} (h : m ≤ n) : (∀ a : AV, okA m a = true → okA n a = true) := by
  intro a
  refine AV.rec (motive_1 := fun a => okA m a = true → okA n a = true) (motive_2 := fun l => okL m l = true → okL n l = true) ?_ ?_ ?_ ?_ ?_ ?_ ?_ ?_ ?_ ?_ ?_ a <;> intros <;> simp_all [okA, okL] <;> omega
theorem okL_mono {m n : Nat} (h : m ≤ n) : ∀ (l : List AV), okL m l = true → okL n l = true
  | [], _ => by simp [okL]
  | a :: l, hl => by
    simp only [okL, Bool.and_eq_true] at hl ⊢
    exact ⟨okA_mono_aux h a hl.1, okL_mono h l hl.2⟩
theorem VRs.agree {ρ0 ρ : Ren} {n : Nat} (ha : ∀ b, b < n → ρ b = ρ0 b) (hb : ρ.base = ρ0.base) {l : List AV} {cs : List Value} (hk : okL n l = true) (h : VRs ρ0 l cs) : VRs ρ l cs := by
  refine VRs.mono (ρ := ρ0.below n) ⟨fun b c hc => ?_, hb⟩ _ _ (VRs.below _ _ hk h)
  unfold Ren.below at hc
  simp only at hc
  split at hc
  · rename_i hlt; rw [ha b hlt]; exact hc
  · cases hc
structure Yi where
  t : List AV
  ps : Array Tmp
  asg : Code
  body : Code
def Yi.rec_ (yi : Yi) (fn : FuncId) (tmps : Array Value) (D : Nat) (s : LoopState) : Loop := { state := s, pending := none, fn, tmps, params := yi.ps, assign := yi.asg, body := yi.body, defers := D }
def Yi.ok (yi : Yi) (Γ : Ctx) : Prop :=
  okL Γ.n0 yi.t = true ∧ ∃ fn tmps D, Γ.w0.heap[Γ.ρ0.base.drawn]? = some (.loop (yi.rec_ fn tmps D .ready)) ∧ VRs Γ.ρ0 yi.t tmps.toList ∧ ¬ Γ.owned Γ.ρ0.base.drawn ∧ Γ.ρ0.base.heap.size ≤ Γ.ρ0.base.drawn
theorem Yi.at_ {yi : Yi} {Γ : Ctx} {ρ : Ren} {h : Heap} {w : World} (hY : yi.ok Γ) (hI : Inv Γ ρ h w) : ∃ fn tmps D, w.heap[ρ.base.drawn]? = some (.loop (yi.rec_ fn tmps D .ready)) ∧ VRs ρ yi.t tmps.toList ∧ ρ.base.heap.size ≤ ρ.base.drawn := by
  obtain ⟨h1, fn, tmps, D, h2, h3, h4, h5⟩ := hY
  refine ⟨fn, tmps, D, ?_, VRs.agree hI.agree hI.sameBase h1 h3, by rw [hI.sameBase]; exact h5⟩
  rw [hI.sameBase, hI.keep _ (Array.getElem?_eq_some_iff.1 h2).1 h4]; exact h2
theorem Yi.stable (yi : Yi) : Stable yi.ok := fun Γ ρ h w hY hI hn => by
  obtain ⟨fn, tmps, D, h1, h2, h3⟩ := Yi.at_ (yi := yi) hY hI
  exact ⟨okL_mono hn _ hY.1, fn, tmps, D, h1, h2, hI.sim.not_owned h1 (by simp), h3⟩
theorem Inv.self {ρ : Ren} {h : Heap} {w : World} (hS : Sim ρ h w) : Inv ⟨h.length, ρ, h, w⟩ ρ h w := by
  refine ⟨hS, fun _ _ => rfl, rfl, rfl, rfl, rfl, Nat.le_refl _, fun _ _ _ => rfl, fun b blk d hb hd hrw hs => ?_⟩
  refine .inr ⟨b, blk, d, ?_, hb, hrw, hd, hs, rfl⟩
  rcases Nat.lt_or_ge b h.length with h' | h'
  · exact h'
  · simp [Heap.get, List.getD_eq_getElem?_getD, List.getElem?_eq_none h'] at hb
theorem Sim.putObj {ρ : Ren} {h : Heap} {w : World} (hS : Sim ρ h w) {D : Nat} {o o' : Obj} (hD : w.heap[D]? = some o) (ho : ∀ cs e q, o ≠ .cells cs e q) (ho' : ∀ cs e q, o' ≠ .cells cs e q) (hb : ρ.base.heap.size ≤ D) : Sim ρ h (w.putObj D o') := by
  have hc := cell_putObj hD ho ho'
  refine ⟨hS.some_, fun b blk c hb hρ => (hS.cells b blk c hb hρ).of_cell fun _ o => hc _, fun b blk c hb hρ hso => by simpa using hS.inside b blk c hb hρ hso, fun b blk c hb hρ hrw hso => ?_, hS.apart, hS.dom, by simpa using hS.baseLe, fun i hi => by rw [World.putObj_heap_other (by omega)]; exact hS.old i hi, hS.above⟩
  obtain ⟨h1, cs, e, h2, h3⟩ := hS.own b blk c hb hρ hrw hso
  refine ⟨h1, cs, e, ?_, h3⟩
  rw [World.putObj_heap_other (fun e' => ?_)]
  · exact h2
  · subst e'; rw [hD] at h2; injection h2 with h2; exact absurd h2 (ho _ _ _)
theorem Inv.round {Γ : Ctx} {ρ ρ3 : Ren} {h h3 : Heap} {w w3 : World} (hI : Inv Γ ρ h w) (hn : Γ.n0 ≤ h.length) {l : Nat} {o o' : Obj} (hl : w.heap[l]? = some o) (ho : ∀ cs e q, o ≠ .cells cs e q) (ho' : ∀ cs e q, o' ≠ .cells cs e q) (hb : ρ.base.heap.size ≤ l)
    (hJ : Inv ⟨h.length, ρ, h, w.putObj l o'⟩ ρ3 h3 w3) : Inv Γ ρ3 h3 (w3.putObj l o) := by
  have hlt : l < w.heap.size := (Array.getElem?_eq_some_iff.1 hl).1
  have hl2 : (w.putObj l o').heap[l]? = some o' := World.putObj_heap_same hlt
  have hS2 : Sim ρ h (w.putObj l o') := hI.sim.putObj hl ho ho' hb
  have hl3 : w3.heap[l]? = some o' := by
    rw [hJ.keep l (by simpa using hlt) (hS2.not_owned hl2 ho')]; exact hl2
  have hlt3 : l < w3.heap.size := (Array.getElem?_eq_some_iff.1 hl3).1
  refine hI.trans hn ⟨hJ.sim.putObj hl3 ho' ho (by rw [hJ.sameBase]; exact hb), hJ.agree, hJ.sameBase, hJ.os, hJ.tape, hJ.output, by have := hJ.size; simpa using this, fun i hi hno => ?_, fun b blk c hb hc hr hs => ?_⟩
  · by_cases e : i = l
    · subst e; rw [World.putObj_heap_same hlt3, hl]
    · rw [World.putObj_heap_other e, hJ.keep i (by simpa using hi) hno]
      exact World.putObj_heap_other e
  · have := hJ.fresh b blk c hb hc hr hs
    rcases this with h1 | h1
    · exact .inl (by simpa using h1)
    · exact .inr h1
def setPs : List Nat → List AV → List AV → List AV
  | p :: ps, a :: as, t => setPs ps as (t.set p a)
  | _, _, t => t
theorem setPs_VRs {ρ : Ren} : ∀ (ps : List Nat) (as : List AV) (vs : List Value) (t : List AV) (tv : Array Value), VRs ρ as vs → VRs ρ t tv.toList → VRs ρ (setPs ps as t) ((ps.zip vs).foldl (fun (t : Array Value) (p : Nat × Value) => t.setIfInBounds p.1 p.2) tv).toList
  | [], as, vs, t, tv, _, ht => by simpa [setPs] using ht
  | p :: ps, [], [], t, tv, _, ht => by simpa [setPs] using ht
  | p :: ps, a :: as, v :: vs, t, tv, h, ht => by
    simp only [VRs] at h
    simp only [setPs, List.zip_cons_cons, List.foldl_cons]
    refine setPs_VRs ps as vs _ _ h.2 ?_
    simp only [Array.toList_setIfInBounds]
    exact ht.set p h.1
  | p :: ps, [], _ :: _, _, _, h, _ => by simp [VRs] at h
  | p :: ps, _ :: _, [], _, _, h, _ => by simp [VRs] at h
def roundS {P : Program} (env : Env P) (fuel : Nat) (Lb : Loops P env.Y) (yi : Yi) {β : Type} (H : Nat → Ent) (new : Nat) (args : List AV) (K : Eff → Option β) : Option β :=
  let R := reachF H 1000 0 (blksL (yi.t ++ args) [])
  let hp := partHeap allRw H new R
  match okL new (yi.t ++ args) && (okEnts new hp && decide (args.length = yi.ps.size)) with
  | true => codeK P env new fuel [] [] (.code yi.asg) (setPs yi.ps.toList args yi.t) hp fun e t h => match e with
    | .normal => codeK P env h.length fuel Lb [] (.code yi.body) t h fun e t' h' => match e with
      | .normal => K (outE hp h' R (reachF h'.get 1000 0 R) (.val (.bool true)))
      | _ => none
    | _ => none
  | false => none
theorem okL_append {n : Nat} : ∀ (a b : List AV), okL n (a ++ b) = (okL n a && okL n b)
  | [], b => by simp [okL]
  | x :: a, b => by simp [okL, okL_append a b, Bool.and_assoc]
def roundY {P : Program} (hm : P.follows .mixedOrders = true) (env : Env P) (hy : ∀ Γ, env.Y Γ) (fuel : Nat) (Lb : Loops P env.Y) (yi : Yi) (hL : Lb.fit yi.body) : YSumm P where
  Y := yi.ok
  stable := yi.stable
  S := fun H new args K => roundS env fuel Lb yi H new args K
  ok := by
    intro β H new args K r hs
    unfold roundS at hs
    simp only at hs
    split at hs
    case h_2 => cases hs
    rename_i hok
    simp only [Bool.and_eq_true, decide_eq_true_eq, okL_append] at hok
    obtain ⟨⟨hokt, hoka⟩, hents, hsz⟩ := hok
    generalize hR : reachF H 1000 0 (blksL (yi.t ++ args) []) = R at *
    have hlen : (partHeap allRw H new R).length = new := by simp [partHeap]
    obtain ⟨e, t1, h1, hk, hn1, hg1⟩ := codeK_ok hm fuel [] [] (.code yi.asg) _ _ _ yi.asg Loops.fit_nil (.inl rfl) (by rw [hlen]; exact Nat.le_refl _) hs
    have hg1 : Runs P env.Y new yi.asg (setPs yi.ps.toList args yi.t) (partHeap allRw H new R) e t1 h1 := hg1
    split at hk
    case h_2 => cases hk
    obtain ⟨e2, t2, h2, hk2, hn2, hg2⟩ := codeK_ok hm fuel Lb [] (.code yi.body) _ _ _ yi.body hL (.inr rfl) (Nat.le_refl _) hk
    have hg2 : Runs P env.Y h1.length yi.body t1 h1 e2 t2 h2 := hg2
    split at hk2
    case h_2 => cases hk2
    refine ⟨_, hk2, fun Γ hY ρ h w cargs hI hV hH hn hfree => ?_⟩
    have hH : ∀ b ∈ R, h.get b = H b := hH
    have hfree : ∀ x, new ≤ x → x < new + (h2.length - (partHeap allRw H new R).length) → h.get x = .free := hfree
    rw [hlen] at hfree
    obtain ⟨fn, tmps, D, hl, ht, hb⟩ := Yi.at_ (yi := yi) hY hI
    obtain ⟨hsim, hout⟩ := out_of_inv (wr := allRw) (H := H) (new := new) (R := R) (Z := reachF h2.get 1000 0 R) (v := .val (.bool true)) (h' := h2) hents (by omega) hI hH hn hfree
    have hlt : ρ.base.drawn < w.heap.size := (Array.getElem?_eq_some_iff.1 hl).1
    have hs : cargs.size = yi.ps.size := by have := hV.length; simp at this; omega
    refine ⟨fn, _, yi.asg, yi.body, run_yield hl (by simpa [Yi.rec_] using hs), ?_⟩
    refine roundIn_of_wpIn trivial ?_
    let Γa : Ctx := ⟨new, ρ.below new, partHeap allRw H new R, w⟩
    have hIa : Inv Γa (ρ.below new) (partHeap allRw H new R) w := by
      have hI0 : Inv ⟨(partHeap allRw H new R).length, ρ.below new, partHeap allRw H new R, w⟩ (ρ.below new) (partHeap allRw H new R) w := by
        refine ⟨hsim, fun _ _ => rfl, rfl, rfl, rfl, rfl, Nat.le_refl _, fun _ _ _ => rfl, fun b blk d hb hd hrw hs => ?_⟩
        refine .inr ⟨b, blk, d, ?_, hb, hrw, hd, hs, rfl⟩
        rcases Nat.lt_or_ge b (partHeap allRw H new R).length with h' | h'
        · exact h'
        · simp [Heap.get, List.getD_eq_getElem?_getD, List.getElem?_eq_none h'] at hb
      rw [hlen] at hI0; exact hI0
    have hVa : VRs (ρ.below new) (setPs yi.ps.toList args yi.t) ((yi.ps.zip cargs).foldl (fun (t : Array Value) (p : Nat × Value) => t.setIfInBounds p.1 p.2) tmps).toList := by
      rw [← Array.foldl_toList, Array.toList_zip]
      exact setPs_VRs _ _ _ _ _ (VRs.below _ _ hoka hV) (VRs.below _ _ hokt ht)
    have hfr : ∀ (W : World), W.heap[ρ.base.drawn]? = some (.loop (yi.rec_ fn tmps D .ready)) → FrOK (some ρ.base.drawn) W := fun W hW l hl => by
      injection hl with hl; subst hl; exact ⟨_, hW⟩
    refine wpIn_mono (hg1.2 Γa rfl (hy _) (some ρ.base.drawn) (ρ.below new) w _ hIa hVa ⟨hfr w hl, fun _ _ => rfl, trivial⟩) fun ea aa wa hp => ?_
    obtain ⟨rfl, ρ1, g1, g2, g3⟩ := hp
    have hla : wa.heap[ρ.base.drawn]? = some (.loop (yi.rec_ fn tmps D .ready)) := Inv.quiet hsim g1 _ _ hl (by simp)
    have hlta : ρ.base.drawn < wa.heap.size := (Array.getElem?_eq_some_iff.1 hla).1
    have hb1 : ρ1.base.heap.size ≤ ρ.base.drawn := by rw [g1.sameBase]; exact hb
    refine ⟨_, run_beginRound hla rfl, ?_⟩
    have hbusy : (wa.putObj ρ.base.drawn (.loop { yi.rec_ fn tmps D .ready with state := .busy })).heap[ρ.base.drawn]? = some (.loop (yi.rec_ fn tmps D .busy)) := World.putObj_heap_same hlta
    have hIb : Inv ⟨h1.length, ρ1, h1, wa.putObj ρ.base.drawn (.loop { yi.rec_ fn tmps D .ready with state := .busy })⟩ ρ1 h1 (wa.putObj ρ.base.drawn (.loop { yi.rec_ fn tmps D .ready with state := .busy })) := by
      refine ⟨g1.sim.putObj hla (by simp) (by simp) hb1, fun _ _ => rfl, rfl, rfl, rfl, rfl, Nat.le_refl _, fun _ _ _ => rfl, fun b blk d hb hd hrw hs => ?_⟩
      refine .inr ⟨b, blk, d, ?_, hb, hrw, hd, hs, rfl⟩
      rcases Nat.lt_or_ge b h1.length with h' | h'
      · exact h'
      · simp [Heap.get, List.getD_eq_getElem?_getD, List.getElem?_eq_none h'] at hb
    have hda : aa.defers = [] := g3.2.1 _ rfl
    refine wpIn_mono (hg2.2 ⟨h1.length, ρ1, h1, wa.putObj ρ.base.drawn (.loop { yi.rec_ fn tmps D .ready with state := .busy })⟩ rfl (hy _) (some ρ.base.drawn) ρ1 _ aa hIb g2 ⟨fun l hl => by (injection hl with hl; subst hl; exact ⟨_, hbusy⟩), fun _ _ => hda, by rw [hda]; trivial⟩) fun eb ab wb hp => ?_
    obtain ⟨rfl, ρ3, q1, q2, q3⟩ := hp
    have hlb : wb.heap[ρ.base.drawn]? = some (.loop (yi.rec_ fn tmps D .busy)) := Inv.quiet hIb.sim q1 _ _ hbusy (by simp)
    refine ⟨_, _, run_endRound none hlb, ?_⟩
    have hfin := g1.round hn1 hla (by simp) (by simp) hb1 q1
    obtain ⟨ρ4, k1, k2, k3⟩ := hout ρ3 _ hfin
    exact ⟨ρ4, .bool true, rfl, k1, by simp [outE, VR], k3⟩
theorem Inv.allocObj {Γ : Ctx} {ρ : Ren} {h : Heap} {w : World} (hI : Inv Γ ρ h w) {o : Obj} (ho : ∀ cs e q, o ≠ .cells cs e q) : Inv Γ ρ h (w.alloc o) := by
  have hsz : (w.alloc o).heap.size = w.heap.size + 1 := by simp
  have hold : ∀ i, i < w.heap.size → (w.alloc o).heap[i]? = w.heap[i]? := fun i hi => by
    show (w.heap.push o)[i]? = _
    rw [Array.getElem?_push, if_neg (by omega)]
  refine hI.other (by omega) (fun a => ?_) (fun i cs e q hi => ?_) (fun i hi => hold i ?_) rfl rfl rfl
  · unfold World.cell?
    by_cases ha : a.block < w.heap.size
    · rw [hold _ ha]
    · by_cases h2 : a.block = w.heap.size
      · rw [h2, World.alloc_heap_new, Array.getElem?_eq_none (Nat.le_refl _)]
        cases o with
        | cells cs e q => exact absurd rfl (ho cs e q)
        | _ => rfl
      · rw [Array.getElem?_eq_none (by omega), Array.getElem?_eq_none (by omega)]
  · rw [hold i (Array.getElem?_eq_some_iff.1 hi).1]; exact hi
  · rcases hi with hi | hi
    · have := hI.sim.baseLe; omega
    · have := hI.size; omega
theorem quiet_alloc (w : World) (o : Obj) : Quiet w (w.alloc o) := fun k o' hk _ => by
  have hlt := (Array.getElem?_eq_some_iff.1 hk).1
  show (w.heap.push o)[k]? = _
  rw [Array.getElem?_push, if_neg (by omega)]; exact hk
theorem quiet_putObj {w : World} {l : Nat} {o' : Obj} {k : Nat} {x : Obj} (hk : w.heap[k]? = some x) (hne : k ≠ l) : (w.putObj l o').heap[k]? = some x := by
  rw [World.putObj_heap_other hne]; exact hk
def rangeEnv {P : Program} (hm : P.follows .mixedOrders = true) (env : Env P) (hy : ∀ Γ, env.Y Γ) (fuel : Nat) (Lb : Loops P env.Y) (yi : Yi) (hL : Lb.fit yi.body) (lI : List (Summ P)) : Env P := ⟨lI, some (roundY hm env hy fuel Lb yi hL)⟩
def rangeSumm {P : Program} (hm : P.follows .mixedOrders = true) (env : Env P) (hy : ∀ Γ, env.Y Γ) (fuel : Nat) (Lb : Loops P env.Y) (g : Operand) (ps : Array Tmp) (asg body : Code) (hLb : Lb.fit body)
    (lI : List (Summ P)) (fuelI : Nat) (Lit : (yi : Yi) → Loops P yi.ok) (gf : FuncId) (fn : Func) (c : Code) (hf : P.funcs[gf]? = some fn) (hb : fn.body = some c) (hname : (fn.name == "runtime.NumGoroutine") = false) (hres : fn.results = #[]) (hLit : ∀ yi, (Lit yi).fit c) : LSumm P env.Y where
  c := .rangeFunc g ps asg body
  S := fun {β} n0 t h K => match evalE t g with
  | .fn (.func f) [] cs =>
    if f = gf then
      (match okL h.length t && (noYL t && (noYE h && noYL cs)) with
      | true =>
        codeK P (rangeEnv hm env hy fuel Lb ⟨t, ps, asg, body⟩ hLb lI) h.length fuelI (Lit ⟨t, ps, asg, body⟩) [] (.code c) (.fn (.yield 0) [] [] :: cs ++ List.replicate (fn.ntmps - (cs.length + 1)) (.val undef)) h fun e t' h' => match okExit e && noYE h' with
          | true => K .normal t h'
          | false => none
      | false => none)
    else none
  | _ => none
  ok := by
    intro β n0 t h K r hn hs
    split at hs
    case h_2 => cases hs
    rename_i f cs hg
    split at hs
    case isFalse => cases hs
    rename_i hff
    subst hff
    split at hs
    case h_2 => cases hs
    rename_i hok
    simp only [Bool.and_eq_true] at hok
    obtain ⟨hokt, hnt, hnh, hncs⟩ := hok
    obtain ⟨e, t1, h1, hk, hn1, hgood⟩ := codeK_ok hm (env := rangeEnv hm env hy fuel Lb ⟨t, ps, asg, body⟩ hLb lI) fuelI (Lit ⟨t, ps, asg, body⟩) [] (.code c) _ _ _ c (hLit _) (.inr rfl) (Nat.le_refl _) hs
    split at hk
    case h_2 => cases hk
    rename_i hex
    simp only [Bool.and_eq_true] at hex
    obtain ⟨hex, hnh1⟩ := hex
    refine ⟨_, t, h1, hk, by omega, fun Γ hΓ hY fr ρ w a hI hV hd => ?_⟩
    refine wpIn_rangeFunc fun fn0 _ => ?_
    have hgv := VR_evalE hV g
    rw [hg] at hgv
    simp only [VR] at hgv
    obtain ⟨fs, cs', hgv, hfs, hcs⟩ := hgv
    have hfs0 : fs = #[] := by
      have := hfs.length
      exact Array.eq_empty_of_size_eq_zero (by simpa using this.symm)
    subst hfs0
    -- the record is laid
    obtain ⟨l, mark, w1, hent, hI1, hquiet, hrec, hmark, hbl⟩ : ∃ l mark w1, (Instr.enterLoop fn0 a.tmps ps asg body (frF fr).round).run P w = .ok (l, mark) w1 ∧ Inv Γ ρ h w1 ∧ Quiet w w1 ∧
        (∃ D, w1.heap[l]? = some (.loop ((Yi.mk t ps asg body).rec_ fn0 a.tmps D .ready))) ∧ (∀ w2, Quiet w1 w2 → ∀ w3, (∀ k x, k ≠ l → w2.heap[k]? = some x → w3.heap[k]? = some x) → Marks Γ fr (mark ++ a.defers) w3) ∧ (ρ.base.heap.size ≤ l ∧ Γ.w0.heap.size ≤ l) := by
      have hbase := hI.sim.baseLe
      have hsize := hI.size
      cases fr with
      | none =>
        have e1 : ((w.alloc (.deferred (some []))).heap.size) = w.heap.size + 1 := by simp
        refine ⟨w.heap.size + 1, [{ target := .collected w.heap.size, args := #[] }], _, run_enterLoop_outer _ _ _ _ _, ?_, ?_, ⟨w.heap.size, ?_⟩, ?_, by omega⟩
        · exact (hI.allocObj (by simp)).allocObj (by simp)
        · exact fun k o hk ho => quiet_alloc _ _ k o (quiet_alloc _ _ k o hk ho) ho
        · have := World.alloc_heap_new (w.alloc (.deferred (some []))) (.loop ((Yi.mk t ps asg body).rec_ fn0 a.tmps w.heap.size .ready))
          rw [e1] at this; exact this
        · intro w2 hq w3 hk3
          refine ⟨(fun l hl => by cases hl), (fun l hl => by cases hl), ?_⟩
          have hmk : ∀ (ds : List Deferred), MarksL Γ ds w → MarksL Γ ds w3 ∧ ∀ d' ∈ ds, d' ≠ ({ target := .collected w.heap.size, args := #[] } : Deferred) := by
            intro ds
            induction ds with
            | nil => exact fun _ => ⟨trivial, fun _ h => by cases h⟩
            | cons d ds ih =>
              intro hm
              obtain ⟨⟨D', e1', e2, e3, e4⟩, e5⟩ := hm
              have hD : D' < w.heap.size := (Array.getElem?_eq_some_iff.1 e3).1
              obtain ⟨i1, i2⟩ := ih e5
              refine ⟨⟨⟨D', e1', e2, hk3 D' _ (by omega) (hq _ _ (quiet_alloc _ _ _ _ (quiet_alloc _ _ _ _ e3 (by simp)) (by simp)) (by simp)), e4⟩, i1⟩, fun d' hd' => ?_⟩
              rcases List.mem_cons.1 hd' with rfl | hd'
              · rw [e1']; intro hh; injection hh with hh; injection hh with hh; omega
              · exact i2 d' hd'
          obtain ⟨m1, m2⟩ := hmk a.defers hd.2.2
          refine ⟨⟨w.heap.size, rfl, ⟨hsize, by have := hI.sameBase; rw [← this]; exact hbase⟩, hk3 _ _ (by omega) (hq _ _ ?_ (by simp)), m2⟩, m1⟩
          exact quiet_alloc _ _ _ _ (World.alloc_heap_new _ _) (by simp)
      | some l0 =>
        obtain ⟨r0, hr0⟩ := hd.1 l0 rfl
        refine ⟨w.heap.size, [], _, run_enterLoop_inner hr0 _ _ _ _ _, hI.allocObj (by simp), quiet_alloc _ _, ⟨r0.defers, World.alloc_heap_new _ _⟩, ?_, by omega⟩
        intro w2 hq w3 hk3
        have hlt0 : l0 < w.heap.size := (Array.getElem?_eq_some_iff.1 hr0).1
        refine ⟨fun l hl => ?_, fun l hl => ?_, ?_⟩
        · injection hl with hl; subst hl
          exact ⟨r0, hk3 _ _ (by omega) (hq _ _ (quiet_alloc _ _ _ _ hr0 (by simp)) (by simp))⟩
        · exact hd.2.1 _ hl
        · have h0 := hd.2.1 _ rfl
          show MarksL Γ a.defers w3
          rw [h0]; trivial
    obtain ⟨D, hrec⟩ := hrec
    let ρ' : Ren := ⟨ρ.f, { ρ.base with drawn := l }⟩
    have hcall : ∀ as w', (callFunc f as).run P w' = .ok (.enter f as) w' := fun as w' => by
      simp only [callFunc, program, Sem.run_bind, Sem.run, Result.andThen, hf]
      simp only [hname, hb, Option.isNone_some, Bool.false_eq_true, if_false]
      rfl
    refine ⟨l, mark, w1, { target := .fn (.func f) cs', args := #[.func (.yield l) #[] #[]] }, w1, f, #[.func (.yield l) #[] #[]] ++ cs', w1, hent, ?_, fun _ _ => trivial, ?_, (fun h => by cases h), ?_⟩
    · simp only [resolve, hgv]
      simp [fnAt, Deferred.ofValue, Sem.run, pure, Act.eval]
    · simp [invoke, hcall]
    · have hS' : Sim ρ' h w1 := hI1.sim.noY (fun _ => rfl) rfl hnh
      have hYi : (Yi.mk t ps asg body).ok ⟨h.length, ρ', h, w1⟩ := ⟨hokt, fn0, a.tmps, D, hrec, VRs.noY (ρ := ρ) (ρ' := ρ') (fun _ => rfl) _ _ hnt hV, hS'.not_owned hrec (by simp), hbl.1⟩
      have hVi : VRs ρ' (.fn (.yield 0) [] [] :: cs ++ List.replicate (fn.ntmps - (cs.length + 1)) (.val undef)) ((#[Value.func (.yield l) #[] #[]] ++ cs') ++ Array.replicate (fn.ntmps - (#[Value.func (.yield l) #[] #[]] ++ cs').size) undef).toList := by
        have hlen := hcs.length
        have hsz : (#[Value.func (.yield l) #[] #[]] ++ cs').size = cs.length + 1 := by simp at hlen ⊢; omega
        rw [hsz]
        simp only [Array.toList_append, Array.toList_replicate]
        refine VRs.append ?_ (VRs.replicate (ρ := ρ') (a := .val undef) (v := undef) (by simp [VR]) _)
        simp only [List.singleton_append, VRs]
        exact ⟨by simp only [VR]; exact ⟨#[], #[], rfl, by simp [VRs], by simp [VRs]⟩, VRs.noY (ρ := ρ) (ρ' := ρ') (fun _ => rfl) _ _ hncs hcs⟩
      refine callsIn_frF (calls_of_runs hf hb hgood hex (Γ := ⟨h.length, ρ', h, w1⟩) rfl hYi (Inv.self hS') hVi fun ρ2 w2 a2 g2 g3 => ?_)
      refine ⟨.tuple #[], by simp [results, hres, Sem.run, pure], ?_⟩
      have hq2 : Quiet w1 w2 := Inv.quiet hS' g2
      have hl2 := hq2 _ _ hrec (by simp)
      refine ⟨none, _, run_endLoop hl2 (by simp [Yi.rec_]), ?_⟩
      have hbase2 : ρ2.base.heap = ρ.base.heap := by rw [g2.sameBase]
      have hJ : Inv ⟨h.length, ρ, h, w1⟩ ⟨ρ2.f, ρ.base⟩ h1 w2 :=
        ⟨g2.sim.noY (fun _ => rfl) hbase2.symm hnh1, g2.agree, rfl, g2.os, g2.tape, g2.output, g2.size, g2.keep, g2.fresh⟩
      have hfin : Inv Γ ⟨ρ2.f, ρ.base⟩ h1 w2 := hI1.trans (by omega) hJ
      refine ⟨rfl, ⟨ρ2.f, ρ.base⟩, hfin.putObj hl2 (by simp) (by simp) hbl.2 hbl.1, VRs.agree (ρ0 := ρ) (ρ := ⟨ρ2.f, ρ.base⟩) (n := h.length) (fun b hb => g2.agree b hb) rfl hokt hV, hmark w2 hq2 _ fun k x hne hk => quiet_putObj hk hne⟩
def rgG : Code → Operand
  | .rangeFunc g _ _ _ => g
  | _ => .const undef
def rgP : Code → Array Tmp
  | .rangeFunc _ ps _ _ => ps
  | _ => #[]
def rgA : Code → Code
  | .rangeFunc _ _ a _ => a
  | _ => .skip
def rgB : Code → Code
  | .rangeFunc _ _ _ b => b
  | _ => .skip
end Go.Ab
namespace Go.Ab
def kEnt (k : IntKind) (n : Int) : Ent := .live { cells := .lit [.val (.int k n)], rw := true }
def ReadsK (P : Program) (f : FuncId) (ss : List Sh) (g : FuncId) (k : IntKind) (law : Sh.Ts ss → Option Int) : Prop :=
  ∀ x n, law x = some n → Does P f (Sh.args ss x 0) (Sh.entss ss x) (.fn (.func g) [] [.ptr (Sh.nes ss) 0]) (Sh.entss ss x ++ [kEnt k n])
def outBx {P : Program} (fn : Func) (n0 : Nat) (g : FuncId) (k : IntKind) (ex : Exit) (t : List AV) (h : Heap) : Option Int :=
  match okExit ex with
  | true => (match resA P t h fn.results.toList with
    | some [.fn (.func g') [] [.ptr b 0]] => if g' = g ∧ n0 ≤ b then (match h.get b with
      | .live { cells := .lit [.val (.int k' n)], rw := true, grow := none } => if k' = k then some n else none
      | _ => none) else none
    | _ => none)
  | false => none
def codeLawK (P : Program) (env : Env P) (fuel : Nat) (L : Loops P env.Y) (fn : Func) (c : Code) (ss : List Sh) (g : FuncId) (k : IntKind) (x : Sh.Ts ss) : Option Int :=
  codeK P env (Sh.nes ss) fuel L [] (.code c) (Sh.args ss x 0 ++ List.replicate (fn.ntmps - ss.length) (.val undef)) (Sh.entss ss x) fun ex t h => outBx (P := P) fn (Sh.nes ss) g k ex t h
theorem ReadsK.of_code {P : Program} (hm : P.follows .mixedOrders = true) {f : FuncId} {fn : Func} {c : Code} (hf : P.funcs[f]? = some fn) (hb : fn.body = some c) (hname : (fn.name == "runtime.NumGoroutine") = false)
    (env : Env P) (fuel : Nat) {L : Loops P env.Y} (hL : L.fit c) {ss : List Sh} {g : FuncId} {k : IntKind} (hy : ∀ Γ, env.Y Γ := by exact fun _ => True.intro) : ReadsK P f ss g k (codeLawK P env fuel L fn c ss g k) := by
  intro x n hxy ρ w cargs hsim hargs
  unfold codeLawK at hxy
  have hlen0 := entss_length ss x
  obtain ⟨ex, t1, h1, hk, hn1, hg⟩ := codeK_ok hm fuel L [] (.code c) _ _ _ c hL (.inr rfl) (by omega) hxy
  unfold outBx at hk
  split at hk
  case h_2 => cases hk
  rename_i hex
  have hcall : (callFunc f cargs).run P w = .ok (.enter f cargs) w := by
    simp only [callFunc, program, Sem.run_bind, Sem.run, Result.andThen, hf]
    simp only [hname, hb, Option.isNone_some, Bool.false_eq_true, if_false]
    rfl
  have hlen := hargs.length
  rw [args_length] at hlen
  have hro : ∀ b blk, Heap.get (Sh.entss ss x) b = .live blk → blk.rw = false := fun b blk hb => entss_norw hb
  have hI : Inv ⟨(Sh.entss ss x).length, ρ, Sh.entss ss x, w⟩ ρ (Sh.entss ss x) w :=
    ⟨hsim, fun _ _ => rfl, rfl, rfl, rfl, rfl, Nat.le_refl _, fun _ _ _ => rfl, fun b blk d hb hd hrw hs => by rw [hro b blk hb] at hrw; cases hrw⟩
  have hV : VRs ρ (Sh.args ss x 0 ++ List.replicate (fn.ntmps - ss.length) (.val undef)) ({ tmps := cargs ++ Array.replicate (fn.ntmps - cargs.size) undef, defers := [] } : Act).tmps.toList := by
    simp only [Array.toList_append, Array.toList_replicate]
    refine hargs.append ?_
    rw [hlen]
    simpa using VRs.replicate (ρ := ρ) (a := .val undef) (v := undef) (by simp [VR]) (fn.ntmps - cargs.size)
  split at hk
  case h_2 => cases hk
  rename_i g' b hvs
  split at hk
  case isFalse => cases hk
  rename_i hgb
  obtain ⟨rfl, hbn⟩ := hgb
  split at hk
  case h_2 => cases hk
  rename_i k' n' hget
  split at hk
  case isFalse => cases hk
  rename_i hkk
  subst hkk
  injection hk with hk
  subst hk
  unfold Invokes
  rw [hcall]
  simp only
  refine calls_of_runs hf hb hg hex hlen0 (hy _) hI hV fun ρ2 w2 a2 g2 g3 => ?_
  obtain ⟨us, cv, k1, k2, k3⟩ := run_results_list (P := P) g2 g3 hvs
  have hv : VR ρ2 (.fn (.func g') [] [.ptr b 0]) cv := k3 ρ2 _ k2
  obtain ⟨d, hd⟩ := g2.sim.some_ b _ hget
  have hS := settleF hsim hro g2 hget rfl (fun l hl => ⟨[.int k' n'], by injection hl with hl; exact hl.symm⟩) (fun _ _ => by simp) (fun _ => by simp) hd
  refine ⟨cv, k1, _, cv, rfl, ?_, hS⟩
  simp only [VR] at hv ⊢
  obtain ⟨fs, cs, h2, h3, h4⟩ := hv
  refine ⟨fs, cs, h2, h3.nil_any, ?_⟩
  have hl4 := h4.length
  match cs, hl4, h4 with
  | ⟨[u]⟩, _, h4 =>
    simp only [VRs, VR] at h4 ⊢
    obtain ⟨⟨cb, co, cc, e1, e2⟩, _⟩ := h4
    rw [hd] at e1
    exact ⟨⟨cb, co, cc, by rw [← hlen0]; simpa [Ren.put] using e1, e2⟩, trivial⟩
theorem ReadsK.to {P : Program} {f : FuncId} {ss : List Sh} {g : FuncId} {k : IntKind} {law law' : Sh.Ts ss → Option Int} (h : ReadsK P f ss g k law) (he : ∀ x, law x = law' x) : ReadsK P f ss g k law' := fun x y hxy => h x y (by rw [he]; exact hxy)
def readsKS {P : Program} {β : Type} (ss : List Sh) (g : FuncId) (k : IntKind) (law : Sh.Ts ss → Option Int) (H : Nat → Ent) (new : Nat) (args : List AV) (K : Eff → Option β) : Option β :=
  match viewArgs H ss args with
  | some (x, bs, c) => ifK c ((law x).bind fun n => K { rb := bs, wb := [(new, kEnt k n)], nw := 1, val := .fn (.func g) [] [.ptr new 0] })
  | none => none
def ReadsK.summ {P : Program} {f : FuncId} {ss : List Sh} {g : FuncId} {k : IntKind} {law : Sh.Ts ss → Option Int} (hr : ReadsK P f ss g k law) : Summ P where
  f := f
  S := fun H new args K => readsKS (P := P) ss g k law H new args K
  ok := by
    intro β H new args K r hs
    unfold readsKS at hs
    split at hs
    case h_2 => cases hs
    rename_i x bs c hv
    obtain ⟨hc, hs⟩ := ifK_some hs
    rw [Option.bind_eq_some_iff] at hs
    obtain ⟨n, hl, hs⟩ := hs
    refine ⟨_, hs, fun Γ ρ h w cargs hI hargs hH hn hfree => ?_⟩
    obtain ⟨ρg, _, h1, h2, _⟩ := sim_views hI.sim.baseLe hI.sim.old (viewArgs_ok (Q := fun _ => True) hI.sim ss args _ hargs x bs c hv hH (fun _ _ => trivial) hc)
    refine (hr x n hl ρg w cargs h2 h1).mono fun en w' ⟨ρg', cv, he, hvv, hJ⟩ => ?_
    obtain ⟨ρ', g1, g2, g3⟩ := after_pure hI (hg := Sh.entss ss x) (fun b blk hb => entss_norw hb) (es := [kEnt k n]) rfl hJ hn hfree
    refine ⟨ρ', cv, he, g1, ?_, g3⟩
    have q := g2 0 (by simp)
    simp only [Nat.add_zero, entss_length] at q
    simp only [VR] at hvv ⊢
    obtain ⟨fs, cs, h2, h3, h4⟩ := hvv
    refine ⟨fs, cs, h2, h3.nil_any, ?_⟩
    have hl4 := h4.length
    match cs, hl4, h4 with
    | ⟨[u]⟩, _, h4 =>
      simp only [VRs, VR] at h4 ⊢
      rw [q]; exact h4
end Go.Ab
