/-
  CORE 19: a function that only reads: its law, out of its code.
-/
import Derived.Test.YtiikkepnpidilaaCore18
set_option linter.unusedVariables false
set_option linter.unusedSimpArgs false
namespace Go.Ab

def okExit : Exit → Bool
  | .ret => true
  | .normal => true
  | _ => false

def outK {P : Program} (fn : Func) (rs : List Sh) (e : Exit) (t : List AV) (h : Heap) : Option (Sh.Ts rs) :=
  match okExit e with
  | true => (match resA P t h fn.results.toList with
    | some vs => (match viewArgs h.get rs vs with
      | some (y, _, c) => ifK c (some y)
      | none => none)
    | none => none)
  | false => none

/-- What the code of a function tells of its arguments. -/
def codeLaw (P : Program) (env : Env P) (fuel : Nat) (L : Loops P) (fn : Func) (c : Code) (ss rs : List Sh) (x : Sh.Ts ss) : Option (Sh.Ts rs) :=
  codeK P env (Sh.nes ss) fuel L [] (.code c) (Sh.args ss x 0 ++ List.replicate (fn.ntmps - ss.length) (.val undef)) (Sh.entss ss x) fun e t h => outK (P := P) fn rs e t h

theorem Loops.fit_nil {P : Program} {C : Code} : Loops.fit C ([] : Loops P) := by intro s hs; simp at hs
theorem Loops.fit_cons {P : Program} {C : Code} {p : List Nat} {s : LSumm P} {L : Loops P} (h : subAt C p = some (.loop s.b)) (hL : Loops.fit C L) : Loops.fit C ((p, s) :: L) := by
  intro x hx
  rcases List.mem_cons.1 hx with rfl | hx
  · exact h
  · exact hL x hx

theorem run_results_list {P : Program} {Γ : Ctx} {ρ : Ren} {h : Heap} {w : World} (hI : Inv Γ ρ h w) {t : List AV} {a : Act} (hV : VRs ρ t a.tmps.toList) {fn : Func} {vs : List AV} (hres : resA P t h fn.results.toList = some vs) :
    ∃ us cv, (results fn a.tmps).run P w = .ok cv w ∧ VRs ρ vs us ∧ ∀ (ρ' : Ren) (vs' : List AV), VRs ρ' vs' us → VR ρ' (resV vs') cv := by
  obtain ⟨us, k1, k2⟩ := run_results (P := P) hI hV fn.results.toList vs hres
  have hsz := k2.length
  have h5 : (fn.results.mapM fun r : ResultVar => (match r with
      | .tmp t => pure (a.tmps.getD t undef)
      | .cell x t => do loadVar t (← asAddr (a.tmps.getD x undef)) : Sem Value)).run P w = .ok us.toArray w := by
    rw [Array.mapM_eq_mapM_toList, map_eq_pure_bind, Sem.run_bind]
    exact (congrArg (fun r => Result.andThen r fun a w' => Sem.run P (pure a.toArray) w') k1).trans rfl
  by_cases h1 : us.length = 1
  · match us, h1, k2, h5 with
    | [u], _, k2, h5 =>
      refine ⟨[u], u, ?_, k2, fun ρ' vs' hv => ?_⟩
      · unfold results
        rw [Sem.run_bind]
        refine Eq.trans (congrArg (fun r => Result.andThen r _) h5) ?_
        simp [Result.andThen, pure, Sem.run]
      · match vs', hv.length, hv with
        | [v1], _, hv => simp only [VRs] at hv; exact hv.1
  · refine ⟨us, .tuple us.toArray, ?_, k2, fun ρ' vs' hv => ?_⟩
    · unfold results
      rw [Sem.run_bind]
      refine Eq.trans (congrArg (fun r => Result.andThen r _) h5) ?_
      simp [Result.andThen, h1, pure, Sem.run]
    · have hl := hv.length
      have : resV vs' = .tup vs' := by
        unfold resV
        split
        · simp at hl; omega
        · rfl
      rw [this]; simp only [VR]; exact ⟨us.toArray, rfl, by simpa using hv⟩

theorem args_length : ∀ (l : List Sh) (y : Sh.Ts l) n, (Sh.args l y n).length = l.length
  | [], _, _ => rfl
  | s :: l, y, n => by simp [Sh.args, args_length l]

/-- Nothing that was handed in may be written: behind the call it stands as it stood. -/
theorem settle {ρ ρ2 : Ren} {h0 h1 : Heap} {w w2 : World} (hS : Sim ρ h0 w) (hro : ∀ b blk, h0.get b = .live blk → blk.rw = false) (hI : Inv ⟨h0.length, ρ, h0, w⟩ ρ2 h1 w2) : Inv ⟨h0.length, ρ, h0, w⟩ ρ h0 w2 := by
  have notown : ∀ i, ¬ Ctx.owned ⟨h0.length, ρ, h0, w⟩ i := by
    rintro i ⟨b, blk, c, _, hb, hr, _⟩
    rw [hro b blk hb] at hr; cases hr
  have keep : ∀ i, i < w.heap.size → w2.heap[i]? = w.heap[i]? := fun i hi => hI.keep i hi (notown i)
  have hsz : w.heap.size ≤ w2.heap.size := hI.size
  have norw : ∀ b blk, h0.get b = .live blk → blk.rw = true → False := fun b blk hb hr => by rw [hro b blk hb] at hr; cases hr
  refine ⟨⟨hS.some_, fun b blk c hb hc => ?_, fun b blk c hb hc hs => ?_, fun b blk c hb hc hr => (norw b blk hb hr).elim, fun b b' blk blk' c c' hb hb' hne hc hc' hr => (norw b blk hb hr).elim, hS.dom, ?_, fun i hi => ?_, fun b blk c hb hc hr => (norw b blk hb hr).elim⟩, fun _ _ => rfl, rfl, hI.os, hI.tape, hI.output, hI.size, hI.keep, fun b blk c hb hc hr => (norw b blk hb hr).elim⟩
  · exact (hS.cells b blk c hb hc).of_cell fun hpos o => cell_of_heap (keep _ (hS.inside b blk c hb hc (.inl hpos))) o
  · have := hS.inside b blk c hb hc hs; omega
  · have := hS.baseLe; omega
  · rw [keep i (by have := hS.baseLe; omega)]; exact hS.old i hi

theorem Reads.of_code {P : Program} (hm : P.follows .mixedOrders = true) {f : FuncId} {fn : Func} {c : Code} (hf : P.funcs[f]? = some fn) (hb : fn.body = some c) (hname : (fn.name == "runtime.NumGoroutine") = false)
    (env : Env P) (fuel : Nat) {L : Loops P} (hL : L.fit c) {ss rs : List Sh} (hrs : Sh.nes rs = 0) : Reads P f ss rs (codeLaw P env fuel L fn c ss rs) := by
  intro x y hxy ρ w cargs hsim hargs
  unfold codeLaw at hxy
  have hlen0 := entss_length ss x
  obtain ⟨e, t1, h1, hk, hn1, hg⟩ := codeK_ok hm fuel L [] (.code c) _ _ _ c hL (.inr rfl) (by omega) hxy
  unfold outK at hk
  split at hk
  case h_2 => cases hk
  rename_i hex
  split at hk
  case h_2 => cases hk
  rename_i vs hvs
  split at hk
  case h_2 => cases hk
  rename_i y' bs cc hview
  obtain ⟨hcc, hk⟩ := ifK_some hk
  injection hk with hk; subst hk
  unfold Invokes
  have hcall : (callFunc f cargs).run P w = .ok (.enter f cargs) w := by
    simp only [callFunc, program, Sem.run_bind, Sem.run, Result.andThen, hf]
    simp only [hname, hb, Option.isNone_some, Bool.false_eq_true, if_false]
    rfl
  rw [hcall]
  simp only
  have hlen := hargs.length
  rw [args_length] at hlen
  refine calls_of_wp hf hb ?_
  have hro : ∀ b blk, Heap.get (Sh.entss ss x) b = .live blk → blk.rw = false := fun b blk hb => entss_norw hb
  have hI : Inv ⟨(Sh.entss ss x).length, ρ, Sh.entss ss x, w⟩ ρ (Sh.entss ss x) w :=
    ⟨hsim, fun _ _ => rfl, rfl, rfl, rfl, rfl, Nat.le_refl _, fun _ _ _ => rfl, fun b blk d hb hd hrw hs => by rw [hro b blk hb] at hrw; cases hrw⟩
  have hV : VRs ρ (Sh.args ss x 0 ++ List.replicate (fn.ntmps - ss.length) (.val undef)) ({ tmps := cargs ++ Array.replicate (fn.ntmps - cargs.size) undef, defers := [] } : Act).tmps.toList := by
    simp only [Array.toList_append, Array.toList_replicate]
    refine hargs.append ?_
    rw [hlen]
    simpa using VRs.replicate (ρ := ρ) (a := .val undef) (v := undef) (by simp [VR]) (fn.ntmps - cargs.size)
  refine wp_mono (hg.2 _ hlen0 ρ w _ hI hV rfl) fun e2 a2 w2 hp => ?_
  obtain ⟨rfl, ρ2, g2, g3, g4⟩ := hp
  obtain ⟨us, cv, k1, k2, k3⟩ := run_results_list (P := P) g2 g3 hvs
  have hva := viewArgs_ok (Q := fun _ => True) g2.sim rs vs us k2 y' bs cc hview (fun b _ => rfl) (fun _ _ => trivial) hcc
  have hout : VR ρ (outV rs y' (Sh.entss ss x).length) cv := by
    obtain ⟨c0, hc0, hvv⟩ := hva
    have : c0 = [] := List.length_eq_zero_iff.1 (by rw [hc0, hrs])
    subst this
    refine k3 ρ _ ?_
    have := (hvv ⟨ρ.f, ρ2.base⟩ 0 rfl (fun i d hi => by simp at hi)).1
    exact args_shift rs y' 0 _ (fun k hk => by omega) us this
  have hset := settle hsim hro g2
  have hnew : newEnts rs y' = [] := List.length_eq_zero_iff.1 (by simp [newEnts, entss_length, hrs])
  have hfin : ∃ ρ' cv', cv = cv' ∧ VR ρ' (outV rs y' (Sh.entss ss x).length) cv' ∧ Inv ⟨(Sh.entss ss x).length, ρ, Sh.entss ss x, w⟩ ρ' (Sh.entss ss x ++ newEnts rs y') w2 :=
    ⟨ρ, cv, rfl, hout, by rw [hnew, List.append_nil]; exact hset⟩
  obtain ⟨ρ', cv', h7, h8, h9⟩ := hfin
  subst h7
  cases e2 with
  | ret => exact ⟨g4, cv, k1, ρ', cv, rfl, h8, h9⟩
  | normal => exact ⟨g4, cv, k1, ρ', cv, rfl, h8, h9⟩
  | _ => simp [okExit] at hex

theorem Reads.to {P : Program} {f : FuncId} {ss rs : List Sh} {law law' : Sh.Ts ss → Option (Sh.Ts rs)} (h : Reads P f ss rs law) (he : ∀ x, law x = law' x) : Reads P f ss rs law' := fun x y hxy => h x y (by rw [he]; exact hxy)

end Go.Ab
