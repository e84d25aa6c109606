/- An engine that names no program: what code does to what memory shows, evaluated over abstract values and an abstract heap, and that it is so. -/
import Derived.Test.YtnbgchkilpocmaaCored
import Derived.RowKit
/-
  CORE 32: from a contract to what a row asks of its law's call: it ends with 'true', and nothing that was there has turned.
-/
set_option linter.unusedVariables false
set_option linter.unusedSimpArgs false
namespace Go.Ab
open Go.ChangeShapes Go.RowKit Go.WideShapes

def Sh.fitsT (P : Program) : List Sh → List TypeId → Bool
  | [], [] => true
  | s :: l, t :: ts => s.fits P t && Sh.fitsT P l ts
  | _, _ => false

section
variable {H : Type} {enc : TypeId × Value → H} {P : Program} {W : World}

def OpensA (P : Program) (W : World) (l : List Sh) (vs : List Value) : Prop :=
  ∃ y : Sh.Ts l, Sh.oks l y ∧ ∃ c : List (Nat × Nat × Nat), c.length = Sh.nes l ∧ ∀ (ρ : Ren) (next : Nat), ρ.base = W → (∀ (i : Nat) (d : Nat × Nat × Nat), c[i]? = some d → ρ (next + i) = some d) →
    VRs ρ (Sh.args l y next) vs ∧ ∀ (i : Nat) (blk : Blk), (Sh.entss l y)[i]? = some (.live blk) → ∃ d : Nat × Nat × Nat, c[i]? = some d ∧ CellsAt ρ W d.1 d.2.1 blk.cells

theorem arg_open {s : Sh} {t : TypeId} {v : Value} {d : DataW H} {ps : List MemPlace} {base : Nat} (hf : s.fits P t = true) (hval : Value.okWide P W .any base t v) (h : DataW.Trod enc P W 0 (fun _ => true) true t v d ps) : Opens P W s v.cells.toList ∧ ∀ (ρ : Ren) (y : s.T) next, VRs ρ (s.cells y next) v.cells.toList → VR ρ (s.arg y next) v := by
  have hf0 := hf
  obtain ⟨fuel, hd⟩ := h
  refine ⟨open_sh s fuel t _ _ hf hd, ?_⟩
  intro ρ y next hv
  have one : ∀ (a : AV), v.cells = #[v] → VRs ρ [a] v.cells.toList → VR ρ a v := fun a h1 h2 => by
    rw [h1] at h2; simpa [VRs] using h2
  cases s with
  | int k =>
    simp only [Sh.fits, Bool.and_eq_true] at hf
    have hf := hf.2
    split at hf
    · rename_i hu
      obtain ⟨n, rfl⟩ := okWide_int hu hval
      exact one _ rfl hv
    · cases hf
  | bool =>
    simp only [Sh.fits, Bool.and_eq_true] at hf
    have hf := hf.2
    split at hf
    · rename_i hu
      obtain ⟨n, rfl⟩ := okWide_bool hu hval
      exact one _ rfl hv
    · cases hf
  | str =>
    simp only [Sh.fits, Bool.and_eq_true] at hf
    have hf := hf.2
    split at hf
    · rename_i hu
      obtain ⟨n, rfl⟩ := okWide_string hu hval
      exact one _ rfl hv
    · cases hf
  | sl e =>
    simp only [Sh.fits, Bool.and_eq_true] at hf
    have hf := hf.2
    split at hf
    · rename_i hu
      obtain ⟨a, len, cap, rfl⟩ := okWide_slice hu hval
      exact one _ rfl hv
    · cases hf
  | rows e =>
    simp only [Sh.fits, Bool.and_eq_true] at hf
    have hf := hf.2
    split at hf
    · rename_i hu
      obtain ⟨a, len, cap, rfl⟩ := okWide_slice hu hval
      exact one _ rfl hv
    · cases hf
  | st l =>
    have : ∃ cs, v = .agg cs := by
      simp only [Sh.fits, Bool.and_eq_true] at hf
      have hf := hf.2
      split at hf
      · rename_i fs hu
        simp only [Value.okWide, hu] at hval
        obtain ⟨cs, h1, _⟩ := hval
        exact ⟨cs, h1⟩
      · rename_i n e hu
        simp only [Value.okWide, hu] at hval
        obtain ⟨cs, h1, _⟩ := hval
        exact ⟨cs, h1⟩
      · cases hf
    obtain ⟨cs, rfl⟩ := this
    simp only [Sh.arg, VR]
    exact ⟨cs, rfl, by simpa [Value.cells, Sh.cells] using hv⟩

theorem args_open {base : Nat} : ∀ (l : List Sh) (ts : List TypeId) (vs : List Value) (ds : List (DataW H)) (ps : List MemPlace), Sh.fitsT P l ts = true → (∀ (j : Nat) t v, ts[j]? = some t → vs[j]? = some v → Value.okWide P W .any base t v) →
    DataW.TrodAll enc P W 0 (fun _ => true) true ts vs ds ps → OpensA P W l vs
  | [], [], vs, ds, ps, _, _, h => by
    obtain ⟨rfl, _, _⟩ := trodAll_nil h
    exact ⟨(), by simp [Sh.oks], [], rfl, fun ρ next _ _ => ⟨by simp [Sh.args, VRs], fun i blk h => by simp [Sh.entss] at h⟩⟩
  | [], _ :: _, vs, ds, ps, hf, _, _ => by simp [Sh.fitsT] at hf
  | _ :: _, [], vs, ds, ps, hf, _, _ => by simp [Sh.fitsT] at hf
  | s :: l, t :: ts, vs, ds, ps, hf, hval, h => by
    obtain ⟨v, vs', d, ds', p, q, rfl, rfl, rfl, h1, h2⟩ := trodAll_cons h
    simp only [Sh.fitsT, Bool.and_eq_true] at hf
    obtain ⟨⟨y, o1, d1, l1, f1⟩, harg⟩ := arg_open hf.1 (hval 0 t v rfl rfl) h1
    obtain ⟨z, o2, d2, l2, f2⟩ := args_open l ts vs' ds' q hf.2 (fun j t v ht hv => hval (j + 1) t v (by simpa using ht) (by simpa using hv)) h2
    refine ⟨(y, z), by simp only [Sh.oks]; exact ⟨o1, o2⟩, d1 ++ d2, by simp [Sh.nes, l1, l2], fun ρ next hb hρ => ?_⟩
    obtain ⟨a1, a2⟩ := f1 ρ next hb fun i d hi => hρ i d (by rw [List.getElem?_append_left]; exact hi; exact (List.getElem?_eq_some_iff.1 hi).1)
    obtain ⟨b1, b2⟩ := f2 ρ (next + s.ne) hb fun i d hi => by
      have := hρ (s.ne + i) d (by rw [List.getElem?_append_right (by omega), l1, Nat.add_sub_cancel_left]; exact hi)
      rw [Nat.add_assoc]; exact this
    refine ⟨by simp only [Sh.args, VRs]; exact ⟨harg ρ y next a1, b1⟩, fun i blk hi => ?_⟩
    simp only [Sh.entss] at hi
    have el := ents_length s y
    by_cases hil : i < s.ne
    · rw [List.getElem?_append_left (by omega)] at hi
      obtain ⟨d, h3, h4⟩ := a2 i blk hi
      exact ⟨d, by rw [List.getElem?_append_left (by omega)]; exact h3, h4⟩
    · rw [List.getElem?_append_right (by omega), el] at hi
      obtain ⟨d, h3, h4⟩ := b2 (i - s.ne) blk hi
      exact ⟨d, by rw [List.getElem?_append_right (by omega), l1]; exact h3, h4⟩

theorem inside_of {ρ : Ren} {b o : Nat} {cs : Cells} (h : CellsAt ρ W b o cs) (hl : 0 < cs.len) : b < W.heap.size := by
  have key : ∀ off cv, W.cell? ⟨b, off, none⟩ = some cv → b < W.heap.size := fun off cv h => by
    rcases Nat.lt_or_ge b W.heap.size with h' | h'
    · exact h'
    · simp [World.cell?, Array.getElem?_eq_none h'] at h
  cases cs with
  | lit l => obtain ⟨cv, h1, _⟩ := h 0 l[0] (List.getElem?_eq_getElem hl); exact key _ cv h1
  | sym l => exact key _ _ (h 0 l[0] (List.getElem?_eq_getElem hl))
  | rows l => obtain ⟨cv, h1, _⟩ := h 0 l[0] (List.getElem?_eq_getElem hl); exact key _ cv h1
  | arr s l => exact key _ _ (h 0 (s.flatl l)[0] (List.getElem?_eq_getElem hl))
  | arrs s l => obtain ⟨cv, h1, _⟩ := h 0 l[0] (List.getElem?_eq_getElem hl); exact key _ cv h1

theorem sim_open {l : List Sh} {vs : List Value} (h : OpensA P W l vs) : ∃ y : Sh.Ts l, Sh.oks l y ∧ ∃ ρ : Ren, VRs ρ (Sh.args l y 0) vs ∧ Sim ρ (Sh.entss l y) W := by
  obtain ⟨y, hy, c, hc, hf⟩ := h
  have hel := entss_length l y
  obtain ⟨h1, h2⟩ := hf ⟨fun b => c[b]?, W⟩ 0 rfl (fun i d hi => by simpa using hi)
  refine ⟨y, hy, _, h1, ?_⟩
  have live : ∀ b (e : Ent), (Sh.entss l y)[b]? = some e → ∃ blk : Blk, e = .live blk ∧ blk.rw = false ∧ (∀ l, blk.cells ≠ .lit l) := fun b e hb => entss_live l y e (List.mem_of_getElem? hb)
  have at_ : ∀ b blk, Heap.get (Sh.entss l y) b = .live blk → (Sh.entss l y)[b]? = some (.live blk) := fun b blk hb => by
    simp only [Heap.get, List.getD_eq_getElem?_getD] at hb
    cases hq : (Sh.entss l y)[b]? with
    | none => rw [hq] at hb; cases hb
    | some e => rw [hq] at hb; simp at hb; rw [hb]
  have norw : ∀ b blk, Heap.get (Sh.entss l y) b = .live blk → blk.rw = true → False := fun b blk hb hr => by
    obtain ⟨blk', h3, h4, _⟩ := live b _ (at_ b blk hb)
    injection h3 with h3; subst h3; rw [h4] at hr; cases hr
  refine ⟨fun b blk hb => ?_, fun b blk c' hb hc' => ?_, fun b blk c' hb hc' hs => ?_, fun b blk c' hb hc' hr => (norw b blk hb hr).elim, fun b b' blk blk' c' d' hb hb' hne hc' hd' hr => (norw b blk hb hr).elim, fun b hb => ?_, Nat.le_refl _, fun _ _ => rfl, fun b blk c' hb hc' hr => (norw b blk hb hr).elim⟩
  · obtain ⟨d, h3, _⟩ := h2 b blk (at_ b blk hb); exact ⟨d, h3⟩
  · obtain ⟨d, h3, h4⟩ := h2 b blk (at_ b blk hb)
    have : some d = some c' := h3.symm.trans hc'
    injection this with this; subst this; exact h4
  · obtain ⟨d, h3, h4⟩ := h2 b blk (at_ b blk hb)
    have : some d = some c' := h3.symm.trans hc'
    injection this with this; subst this
    refine inside_of h4 ?_
    rcases hs with hs | hs
    · exact hs
    · exact (norw b blk hb hs.1).elim
  · show c[b]? = none
    have hb' : Heap.get (Sh.entss l y) b = .free := hb
    simp only [Heap.get, List.getD_eq_getElem?_getD] at hb'
    cases hq : (Sh.entss l y)[b]? with
    | none =>
      have : (Sh.entss l y).length ≤ b := by simpa using hq
      simp; omega
    | some e =>
      obtain ⟨blk, h3, _⟩ := live b e hq
      rw [hq, h3] at hb'; simp at hb'

theorem trodAll_below (laid : laidOutB P = true) {W' : World} (hb : Below W.heap.size W W') : ∀ (ts : List TypeId) (vs : List Value) (ds : List (DataW H)) (ps : List MemPlace), ts.all (fun t => P.readableRec t && decide (t < P.types.size)) = true →
    DataW.TrodAll enc P W 0 (fun _ => true) true ts vs ds ps → (∀ x ∈ ps, x.block < W.heap.size) → DataW.TrodAll enc P W' 0 (fun b => decide (b < W.heap.size)) true ts vs ds ps
  | [], vs, ds, ps, _, h, _ => by
    obtain ⟨rfl, rfl, rfl⟩ := trodAll_nil h
    exact trodAll_mk0
  | t :: ts, vs, ds, ps, ht, h, hlt => by
    obtain ⟨v, vs', d, ds', p, q, rfl, rfl, rfl, h1, h2⟩ := trodAll_cons h
    simp only [List.all_cons, Bool.and_eq_true, decide_eq_true_eq] at ht
    exact ⟨p, q, Below.trod laid ht.1.1 ht.1.2 h1 hb (fun x hx => hlt x (List.mem_append.2 (.inl hx))), trodAll_below laid hb ts vs' ds' q (by simpa using ht.2) h2 (fun x hx => hlt x (List.mem_append.2 (.inr hx))), rfl⟩

theorem trodAll_lt : ∀ (ts : List TypeId) (vs : List Value) (ds : List (DataW H)) (ps : List MemPlace), DataW.TrodAll enc P W 0 (fun _ => true) true ts vs ds ps → ∀ x ∈ ps, x.block < W.heap.size
  | [], vs, ds, ps, h => by
    obtain ⟨rfl, rfl, rfl⟩ := trodAll_nil h
    simp
  | t :: ts, vs, ds, ps, h => by
    obtain ⟨v, vs', d, ds', p, q, rfl, rfl, rfl, ⟨fuel, h1⟩, h2⟩ := trodAll_cons h
    intro x hx
    rcases List.mem_append.1 hx with hx | hx
    · exact DataW.trod_lt fuel _ _ _ h1 x hx
    · exact trodAll_lt ts vs' ds' q h2 x hx

/-- The row's call. -/
theorem row_calls (laid : laidOutB P = true) {f : FuncId} {fn : Func} {c : Code} (hfn : P.funcs[f]? = some fn) (hb : fn.body = some c) (hname : (fn.name == "runtime.NumGoroutine") = false) {l : List Sh} {ts : List TypeId} (hf : Sh.fitsT P l ts = true) (hr : ts.all (fun t => P.readableRec t && decide (t < P.types.size)) = true)
    (hd : ∀ y : Sh.Ts l, Sh.oks l y → ∃ h', Does P f (Sh.args l y 0) (Sh.entss l y) (.val (.bool true)) h') {args : Array Value} {ds : List (DataW H)} {ps : List MemPlace} {base : Nat} (hval : ∀ (j : Nat) t v, ts[j]? = some t → args[j]? = some v → Value.okWide P W .any base t v)
    (h : DataW.TrodAll enc P W 0 (fun _ => true) true ts args.toList ds ps) :
    Calls P f args W fun e W' => e = .returned (.bool true) ∧ Below W.heap.size W W' ∧ DataW.TrodAll enc P W' 0 (fun b => decide (b < W.heap.size)) true ts args.toList ds ps := by
  obtain ⟨y, hy, ρ, h1, h2⟩ := sim_open (args_open l ts args.toList ds ps hf (fun j t v ht hv => hval j t v ht (by simpa using hv)) h)
  obtain ⟨h', hdo⟩ := hd y hy
  have hinv := hdo ρ W args h2 h1
  unfold Invokes at hinv
  have hcall : (callFunc f args).run P W = .ok (.enter f args) W := by
    simp only [callFunc, program, Sem.run_bind, Sem.run, Result.andThen, hfn]
    simp only [hname, hb, Option.isNone_some, Bool.false_eq_true, if_false]
    rfl
  rw [hcall] at hinv
  refine hinv.mono fun e W' ⟨ρ', cv, he, hv, hI⟩ => ?_
  simp only [VR] at hv
  subst hv
  have hbel : Below W.heap.size W W' := by
    refine ⟨hI.os, hI.tape, hI.output, hI.size, fun k hk => hI.keep k hk ?_⟩
    rintro ⟨b, blk, c', _, hg, hrw, _⟩
    have hg' : Heap.get (Sh.entss l y) b = .live blk := hg
    simp only [Heap.get, List.getD_eq_getElem?_getD] at hg'
    cases hq : (Sh.entss l y)[b]? with
    | none => rw [hq] at hg'; simp at hg'
    | some e =>
      rw [hq] at hg'; simp at hg'; subst hg'
      obtain ⟨blk', h3, h4, _⟩ := entss_live l y _ (List.mem_of_getElem? hq)
      injection h3 with h3; subst h3; rw [h4] at hrw; cases hrw
  exact ⟨he, hbel, trodAll_below laid hbel ts _ _ _ hr h (trodAll_lt ts _ _ _ h)⟩
end
end Go.Ab
