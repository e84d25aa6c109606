/- An engine that names no program: what code does to what memory shows, evaluated over abstract values and an abstract heap, and that it is so. -/
import Derived.Test.YtiikkepnpidilaaCored
import Derived.Lib.ReflectliteSlice
/-
  CORE 26: functions that only read, and hand out a slice of their own (which may be appended to).
-/
set_option linter.unusedVariables false
set_option linter.unusedSimpArgs false
namespace Go.Ab

def fEnt (e : Sh) (l : List e.T) : Ent := .live { cells := .arr e l, rw := true, grow := some e.w }
/-- Whatever the arguments: where the law tells a list, a slice of these parts comes out, in memory of its own. -/
def ReadsF (P : Program) (f : FuncId) (ss : List Sh) (e : Sh) (law : Sh.Ts ss → Option (List e.T)) : Prop :=
  ∀ x l, law x = some l → Does P f (Sh.args ss x 0) (Sh.entss ss x) (.slc (Sh.nes ss) 0 l.length .unk) (Sh.entss ss x ++ [fEnt e l])

def outF {P : Program} (fn : Func) (n0 : Nat) (e : Sh) (ex : Exit) (t : List AV) (h : Heap) : Option (List e.T) :=
  match okExit ex with
  | true => (match resA P t h fn.results.toList with
    | some [.slc b 0 n .unk] => if n0 ≤ b then (match h.get b with
      | .live { cells := .arr e' l, rw := true, grow := some sz } => (match Sh.same e' e with
        | some hh => if sz = e.w then ifK (decide (n = l.length)) (some (hh.down ▸ l)) else none
        | none => none)
      | _ => none) else none
    | some [.val (.slice none 0 0)] => some []
    | _ => none)
  | false => none
def codeLawF (P : Program) (env : Env P) (fuel : Nat) (L : Loops P) (fn : Func) (c : Code) (ss : List Sh) (e : Sh) (x : Sh.Ts ss) : Option (List e.T) :=
  codeK P env (Sh.nes ss) fuel L [] (.code c) (Sh.args ss x 0 ++ List.replicate (fn.ntmps - ss.length) (.val undef)) (Sh.entss ss x) fun ex t h => outF (P := P) fn (Sh.nes ss) e ex t h

/-- What was read stands as it stood, and there is one block more. -/
theorem settleF {ρ ρ2 : Ren} {es : List Ent} {h1 : Heap} {w w2 : World} (hS : Sim ρ es w) (hro : ∀ b blk, Heap.get es b = .live blk → blk.rw = false) (hI : Inv ⟨es.length, ρ, es, w⟩ ρ2 h1 w2) {b : Nat} {blk : Blk} (hb : h1.get b = .live blk) (hrw : blk.rw = true) (hcells : ∀ l, blk.cells ≠ .lit l) (hrows : ∀ s l, blk.cells ≠ .arrs s l) (hrows2 : ∀ l, blk.cells ≠ .rows l) {c : Nat × Nat × Nat} (hc : ρ2 b = some c) :
    Inv ⟨es.length, ρ, es, w⟩ (ρ.put es.length c) (es ++ [.live blk]) w2 := by
  have hset := settle hS hro hI
  have hfree : ρ es.length = none := hS.dom _ (by simp [Heap.get, List.getD_eq_getElem?_getD])
  have hle := Ren.le_put (c := c) hfree
  have hpn : (ρ.put es.length c) es.length = some c := by simp [Ren.put]
  have hpo : ∀ x, x ≠ es.length → (ρ.put es.length c) x = ρ x := fun x hx => by simp [Ren.put, hx]
  have ent : ∀ x xb, Heap.get (es ++ [.live blk]) x = .live xb → (x < es.length ∧ Heap.get es x = .live xb ∧ xb.rw = false) ∨ (x = es.length ∧ xb = blk) := fun x xb hx => by
    rw [get_snoc] at hx
    split at hx
    · rename_i hl; exact .inl ⟨hl, hx, hro x xb hx⟩
    · split at hx
      · rename_i h2; injection hx with hx; exact .inr ⟨h2, hx.symm⟩
      · cases hx
  have one : ∀ d, (ρ.put es.length c) es.length = some d → d = c := fun d hd => by rw [hpn] at hd; injection hd with hd; exact hd.symm
  have cellsN : CellsAt (ρ.put es.length c) w2 c.1 c.2.1 blk.cells := by
    have := hI.sim.cells b blk c hb hc
    cases hk : blk.cells with
    | lit l => exact absurd hk (hcells l)
    | sym l => rw [hk] at this; exact this
    | rows l => exact absurd hk (hrows2 l)
    | arr s l => rw [hk] at this; exact this
    | arrs s l => exact absurd hk (hrows s l)
  have notown : ∀ i, ¬ Ctx.owned ⟨es.length, ρ, es, w⟩ i := by
    rintro i ⟨b', blk', c', _, hb', hr', _⟩
    rw [hro b' blk' hb'] at hr'; cases hr'
  have freshN : blk.solid c → w.heap.size ≤ c.1 := fun hs => by
    rcases hI.fresh b blk c hb hc hrw hs with h | h
    · exact h
    · exact absurd h (notown _)
  refine ⟨⟨?_, ?_, ?_, ?_, ?_, ?_, hset.sim.baseLe, hset.sim.old, ?_⟩, ?_, rfl, hI.os, hI.tape, hI.output, hI.size, hI.keep, ?_⟩
  · intro x xb hx
    rcases ent x xb hx with ⟨h1, h2, h3⟩ | ⟨h1, h2⟩
    · rw [hpo x (by omega)]; exact hset.sim.some_ x xb h2
    · subst h1; exact ⟨_, hpn⟩
  · intro x xb d hx hd
    rcases ent x xb hx with ⟨h1, h2, h3⟩ | ⟨h1, h2⟩
    · rw [hpo x (by omega)] at hd; exact (hset.sim.cells x xb d h2 hd).mono hle
    · subst h1; subst h2; rw [one d hd]; exact cellsN
  · intro x xb d hx hd hs
    rcases ent x xb hx with ⟨h1, h2, h3⟩ | ⟨h1, h2⟩
    · rw [hpo x (by omega)] at hd; exact hset.sim.inside x xb d h2 hd hs
    · subst h1; subst h2; rw [one d hd] at hs ⊢; exact hI.sim.inside b xb c hb hc hs
  · intro x xb d hx hd hr hs
    rcases ent x xb hx with ⟨h1, h2, h3⟩ | ⟨h1, h2⟩
    · rw [h3] at hr; cases hr
    · subst h1; subst h2; rw [one d hd] at hs ⊢; exact hI.sim.own b xb c hb hc hr hs
  · intro x y xb yb d e hx hy hne hd he hr hs hs'
    rcases ent x xb hx with ⟨h1, h2, h3⟩ | ⟨h1, h2⟩
    · rw [h3] at hr; cases hr
    · subst h1; subst h2; rw [one d hd] at hs ⊢
      rcases ent y yb hy with ⟨k1, k2, k3⟩ | ⟨k1, k2⟩
      · rw [hpo y (by omega)] at he
        have g1 := hS.inside y yb e k2 he hs'
        have g2 := freshN hs
        omega
      · exact absurd k1.symm hne
  · intro x hx
    rw [get_snoc] at hx
    split at hx
    · rename_i hl; rw [hpo x (by omega)]; exact hS.dom x hx
    · rename_i hl
      split at hx
      · cases hx
      · rename_i h2
        rw [hpo x h2]; exact hS.dom x (by simp [Heap.get, List.getD_eq_getElem?_getD, List.getElem?_eq_none (show es.length ≤ x by omega)])
  · intro x xb d hx hd hr hs
    rcases ent x xb hx with ⟨h1, h2, h3⟩ | ⟨h1, h2⟩
    · rw [h3] at hr; cases hr
    · subst h1; subst h2; rw [one d hd] at hs ⊢
      have := freshN hs
      have := hS.baseLe
      show ρ.base.heap.size ≤ _
      omega
  · intro x hx
    have hx : x < es.length := hx
    exact hpo x (by omega)
  · intro x xb d hx hd hr hs
    rcases ent x xb hx with ⟨h1, h2, h3⟩ | ⟨h1, h2⟩
    · rw [h3] at hr; cases hr
    · subst h1; subst h2; rw [one d hd] at hs ⊢; exact .inl (freshN hs)

theorem ReadsF.of_code {P : Program} (hm : P.follows .mixedOrders = true) {f : FuncId} {fn : Func} {c : Code} (hf : P.funcs[f]? = some fn) (hb : fn.body = some c) (hname : (fn.name == "runtime.NumGoroutine") = false)
    (env : Env P) (fuel : Nat) {L : Loops P} (hL : L.fit c) {ss : List Sh} {e : Sh} : ReadsF P f ss e (codeLawF P env fuel L fn c ss e) := by
  intro x l hxy ρ w cargs hsim hargs
  unfold codeLawF at hxy
  have hlen0 := entss_length ss x
  obtain ⟨ex, t1, h1, hk, hn1, hg⟩ := codeK_ok hm fuel L [] (.code c) _ _ _ c hL (.inr rfl) (by omega) hxy
  unfold outF at hk
  split at hk
  case h_2 => cases hk
  rename_i hex
  have hcall : (callFunc f cargs).run P w = .ok (.enter f cargs) w := by
    simp only [callFunc, program, Sem.run_bind, Sem.run, Result.andThen, hf]
    simp only [hname, hb, Option.isNone_some, Bool.false_eq_true, if_false]
    rfl
  have hlen := hargs.length
  rw [args_length] at hlen
  have hro : ∀ b blk, Heap.get (Sh.entss ss x) b = .live blk → blk.rw = false := fun b blk hb => entss_norw hb
  have hI : Inv ⟨(Sh.entss ss x).length, ρ, Sh.entss ss x, w⟩ ρ (Sh.entss ss x) w :=
    ⟨hsim, fun _ _ => rfl, rfl, rfl, rfl, rfl, Nat.le_refl _, fun _ _ _ => rfl, fun b blk d hb hd hrw hs => by rw [hro b blk hb] at hrw; cases hrw⟩
  have hV : VRs ρ (Sh.args ss x 0 ++ List.replicate (fn.ntmps - ss.length) (.val undef)) ({ tmps := cargs ++ Array.replicate (fn.ntmps - cargs.size) undef, defers := [] } : Act).tmps.toList := by
    simp only [Array.toList_append, Array.toList_replicate]
    refine hargs.append ?_
    rw [hlen]
    simpa using VRs.replicate (ρ := ρ) (a := .val undef) (v := undef) (by simp [VR]) (fn.ntmps - cargs.size)
  have fin : ∀ vs, resA P t1 h1 fn.results.toList = some vs → (∀ ρ2 w2 cv, Inv ⟨(Sh.entss ss x).length, ρ, Sh.entss ss x, w⟩ ρ2 h1 w2 → VR ρ2 (resV vs) cv → ∃ ρ', VR ρ' (.slc (Sh.nes ss) 0 l.length .unk) cv ∧ Inv ⟨(Sh.entss ss x).length, ρ, Sh.entss ss x, w⟩ ρ' (Sh.entss ss x ++ [fEnt e l]) w2) →
      Invokes P f cargs w fun en w' => ∃ ρ' cv, en = .returned cv ∧ VR ρ' (.slc (Sh.nes ss) 0 l.length .unk) cv ∧ Inv ⟨(Sh.entss ss x).length, ρ, Sh.entss ss x, w⟩ ρ' (Sh.entss ss x ++ [fEnt e l]) w' := by
    intro vs hvs hend
    unfold Invokes
    rw [hcall]
    simp only
    refine calls_of_wp hf hb ?_
    refine wp_mono (hg.2 _ hlen0 ρ w _ hI hV rfl) fun e2 a2 w2 hp => ?_
    obtain ⟨rfl, ρ2, g2, g3, g4⟩ := hp
    obtain ⟨us, cv, k1, k2, k3⟩ := run_results_list (P := P) g2 g3 hvs
    obtain ⟨ρ', h7, h8⟩ := hend ρ2 w2 cv g2 (k3 ρ2 vs k2)
    cases e2 with
    | ret => exact ⟨g4, cv, k1, ρ', cv, rfl, h7, h8⟩
    | normal => exact ⟨g4, cv, k1, ρ', cv, rfl, h7, h8⟩
    | _ => simp [okExit] at hex
  split at hk
  · rename_i b n hvs
    split at hk
    case isFalse => cases hk
    rename_i hbn
    split at hk
    case h_2 => cases hk
    rename_i e' l' sz hget
    split at hk
    case h_2 => cases hk
    rename_i hh _
    obtain ⟨hh⟩ := hh
    subst hh
    split at hk
    case isFalse => cases hk
    rename_i hsz
    subst hsz
    obtain ⟨hn, hk⟩ := ifK_some hk
    have hn : n = l'.length := by simpa using hn
    injection hk with hk
    have hk : l' = l := hk
    subst hk
    refine fin _ hvs fun ρ2 w2 cv g2 hv => ?_
    obtain ⟨d, hd⟩ := g2.sim.some_ b _ hget
    have hS := settleF hsim hro g2 hget rfl (fun _ => by simp) (fun _ _ => by simp) (fun _ => by simp) hd
    refine ⟨_, ?_, hS⟩
    rw [hlen0]
    have hv : VR ρ2 (.slc b 0 n .unk) cv := hv
    simp only [VR] at hv ⊢
    rw [← hn]
    rcases hv with ⟨cb, co, cc, c', q1, q2, q3, q4⟩ | hv
    · rw [hd] at q1
      exact .inl ⟨cb, co, cc, c', by simpa [Ren.put] using q1, q2, q3, q4⟩
    · exact .inr hv
  · rename_i hvs
    injection hk with hk
    subst hk
    refine fin _ hvs fun ρ2 w2 cv g2 hv => ?_
    have hset := settle hsim hro g2
    have hfree : Heap.get (Sh.entss ss x) (Sh.entss ss x).length = .free := by simp [Heap.get, List.getD_eq_getElem?_getD]
    obtain ⟨q1, q2⟩ := hset.addEmpty (Nat.le_refl _) hfree (.arr e []) rfl (fun _ _ _ _ => by intro i v hi; simp [Sh.flatl] at hi) (some e.w)
    refine ⟨_, ?_, q2.congr fun z => ?_⟩
    · have hv : VR ρ2 (.val (.slice none 0 0)) cv := hv
      simp only [VR] at hv ⊢
      exact .inr ⟨rfl, none, hv⟩
    · rw [get_snoc, Heap.get_upd]
      by_cases h1 : z = (Sh.entss ss x).length
      · rw [if_pos h1, if_neg (by omega), if_pos h1]; rfl
      · rw [if_neg h1]
        split
        · rfl
        · simp [Heap.get, List.getD_eq_getElem?_getD, List.getElem?_eq_none (show (Sh.entss ss x).length ≤ z by omega)]
  · cases hk
theorem ReadsF.to {P : Program} {f : FuncId} {ss : List Sh} {e : Sh} {law law' : Sh.Ts ss → Option (List e.T)} (h : ReadsF P f ss e law) (he : ∀ x, law x = law' x) : ReadsF P f ss e law' := fun x y hxy => h x y (by rw [he]; exact hxy)

def readsFS {P : Program} {β : Type} (ss : List Sh) (e : Sh) (law : Sh.Ts ss → Option (List e.T)) (H : Nat → Ent) (new : Nat) (args : List AV) (K : Eff → Option β) : Option β :=
  match viewArgs H ss args with
  | some (x, bs, c) => ifK c ((law x).bind fun l => K { rb := bs, wb := [(new, fEnt e l)], nw := 1, val := .slc new 0 l.length .unk })
  | none => none
def ReadsF.summ {P : Program} {f : FuncId} {ss : List Sh} {e : Sh} {law : Sh.Ts ss → Option (List e.T)} (hr : ReadsF P f ss e law) : Summ P where
  f := f
  S := fun H new args K => readsFS (P := P) ss e law H new args K
  ok := by
    intro β H new args K r hs
    unfold readsFS at hs
    split at hs
    case h_2 => cases hs
    rename_i x bs c hv
    obtain ⟨hc, hs⟩ := ifK_some hs
    rw [Option.bind_eq_some_iff] at hs
    obtain ⟨l, hl, hs⟩ := hs
    refine ⟨_, hs, fun Γ ρ h w cargs hI hargs hH hn hfree => ?_⟩
    obtain ⟨ρg, _, h1, h2, _⟩ := sim_views hI.sim.baseLe hI.sim.old (viewArgs_ok (Q := fun _ => True) hI.sim ss args _ hargs x bs c hv hH (fun _ _ => trivial) hc)
    refine (hr x l hl ρg w cargs h2 h1).mono fun en w' ⟨ρg', cv, he, hvv, hJ⟩ => ?_
    obtain ⟨ρ', g1, g2, g3⟩ := after_pure hI (hg := Sh.entss ss x) (fun b blk hb => entss_norw hb) (es := [fEnt e l]) rfl hJ hn hfree
    refine ⟨ρ', cv, he, g1, ?_, g3⟩
    have q := g2 0 (by simp)
    simp only [Nat.add_zero, entss_length] at q
    simp only [VR] at hvv ⊢
    rw [q]; exact hvv

end Go.Ab
/-
  CORE 27: internal/reflectlite's ValueOf and Len at a slice; functions whose first argument is a slice as an interface's value, whose last one is a function value with captured variables.
-/
set_option linter.unusedVariables false
set_option linter.unusedSimpArgs false
namespace Go.Ab

/-! ### reflectlite.ValueOf, (Value).Len -/
def isSlcI (P : Program) (t : TypeId) : Bool := match P.info? t with
  | some i => (match i.desc with
    | .slice _ => true
    | _ => false)
  | none => false
theorem isSlcI_ok {P : Program} {t : TypeId} (h : isSlcI P t = true) : ∃ i e, P.info? t = some i ∧ i.desc = .slice e := by
  unfold isSlcI at h
  split at h
  · rename_i i hi
    split at h
    · rename_i e he; exact ⟨i, e, hi, he⟩
    · cases h
  · cases h
def valueOfS (P : Program) {β : Type} (H : Nat → Ent) (new : Nat) (args : List AV) (K : Eff → Option β) : Option β :=
  match args with
  | [.ifc t (.slc b o n c)] => if isSlcI P t = true then K { wb := [(new, newBlk [.slc b o n c])], nw := 1, val := .agg [.val (.pointer (some ⟨P.globals.size, t, none⟩)), .ptr new 0, .val (.int .u64 151)] } else none
  | _ => none
def valueOfSumm {P : Program} (f : FuncId) {fn : Func} (hf : P.funcs[f]? = some fn) (hname : (fn.name == "runtime.NumGoroutine") = false) (hb : fn.body.isNone = true) (hn : Extern.findNext fn = none) (he : Extern.find fn = some (fun args => Extern.ReflectliteValue.unpack (args.getD 0 (.tuple #[])))) : Summ P where
  f := f
  S := fun H new args K => valueOfS P H new args K
  ok := by
    intro β H new args K r hs
    unfold valueOfS at hs
    split at hs
    case h_2 => cases hs
    rename_i t b o n c
    split at hs
    case isFalse => cases hs
    rename_i ht
    obtain ⟨i, e, hi, hd⟩ := isSlcI_ok ht
    refine ⟨_, hs, fun Γ ρ h w cargs hI hargs hH hn0 hfree => ?_⟩
    obtain ⟨l, hl⟩ : ∃ l, cargs.toList = l := ⟨_, rfl⟩
    rw [hl] at hargs
    match l, hargs with
    | [x], hx =>
      simp only [VRs, VR] at hx
      obtain ⟨⟨v', rfl, hv⟩, _⟩ := hx
      have hc : cargs = #[.iface t v'] := Array.toList_inj.1 hl
      subst hc
      obtain ⟨p, m, c', rfl⟩ : ∃ p m c', v' = .slice p m c' := by
        rcases VR.slc_cases hv with ⟨cb, co, cc, c', _, _, rfl⟩ | ⟨_, a, rfl⟩
        · exact ⟨_, _, _, rfl⟩
        · exact ⟨_, _, _, rfl⟩
      obtain ⟨ρ', h1, h2, h3⟩ := alloc_lit hI hn0 (hfree new (Nat.le_refl _) (by simp)) t (l := [.slc b o n c]) (cs := #[.slice p m c']) (by simp only [VRs]; exact ⟨hv, trivial⟩)
      unfold Invokes
      rw [run_callFunc_extern hf hname hb hn he]
      have hr := Go.Lib.run_valueOf_slice (P := P) t e i hi hd p m c' w
      have hg : (#[Value.iface t (.slice p m c')].getD 0 (.tuple #[])) = .iface t (.slice p m c') := rfl
      simp only [hg, hr, Result.andThen]
      refine ⟨ρ', _, rfl, h1, ?_, h3⟩
      simp only [VR]
      refine ⟨_, rfl, ?_⟩
      simp only [VRs, VR]
      exact ⟨rfl, ⟨_, _, _, h2, rfl⟩, trivial, trivial⟩
    | [], hx => simp [VRs] at hx
    | _ :: _ :: _, hx => simp [VRs] at hx
def firstSlc : Ent → Option AV
  | .live blk => (match blk.cells with
    | .lit (.slc b o n c :: _) => some (.slc b o n c)
    | _ => none)
  | _ => none
def valueLenS (P : Program) {β : Type} (H : Nat → Ent) (new : Nat) (args : List AV) (K : Eff → Option β) : Option β :=
  match args with
  | [.agg [.val (.pointer (some ⟨g, t, none⟩)), .ptr b 0, .val (.int .u64 151)]] => if isSlcI P t = true ∧ P.packed t = false ∧ g = P.globals.size then (match firstSlc (H b) with
    | some (.slc _ _ n _) => K { rb := [b], val := .val (.int .i64 (n : Int)) }
    | _ => none) else none
  | _ => none
def valueLenSumm {P : Program} (f : FuncId) {fn : Func} (hf : P.funcs[f]? = some fn) (hname : (fn.name == "runtime.NumGoroutine") = false) (hb : fn.body.isNone = true) (hn : Extern.findNext fn = none) (he : Extern.find fn = some (Extern.ReflectliteValue.method (Extern.ReflectliteValue.valueError "reflectlite.Value.Len" 0) Extern.ReflectliteValue.len)) : Summ P where
  f := f
  S := fun H new args K => valueLenS P H new args K
  ok := by
    intro β H new args K r hs
    unfold valueLenS at hs
    split at hs
    case h_2 => cases hs
    rename_i g t b
    split at hs
    case isFalse => cases hs
    rename_i hc
    obtain ⟨ht, hpk, rfl⟩ := hc
    obtain ⟨i, e, hi, hd⟩ := isSlcI_ok ht
    split at hs
    case h_2 => cases hs
    rename_i b' o' n' c' hcell
    refine ⟨_, hs, fun Γ ρ h w cargs hI hargs hH hn0 hfree => ?_⟩
    obtain ⟨l, hl⟩ : ∃ l, cargs.toList = l := ⟨_, rfl⟩
    rw [hl] at hargs
    match l, hargs with
    | [x], hx =>
      simp only [VRs, VR] at hx
      obtain ⟨⟨cs', rfl, hv⟩, _⟩ := hx
      obtain ⟨l2, hl2⟩ : ∃ l, cs'.toList = l := ⟨_, rfl⟩
      rw [hl2] at hv
      match l2, hv with
      | [x1, x2, x3], hv =>
        simp only [VRs, VR] at hv
        obtain ⟨rfl, ⟨cb, co, cc, hρ, rfl⟩, rfl, _⟩ := hv
        have hc1 : cs' = #[.pointer (some ⟨P.globals.size, t, none⟩), .pointer (some ⟨cb, co + 0, none⟩), .int .u64 151] := Array.toList_inj.1 hl2
        subst hc1
        have hc : cargs = #[.agg #[.pointer (some ⟨P.globals.size, t, none⟩), .pointer (some ⟨cb, co + 0, none⟩), .int .u64 151]] := Array.toList_inj.1 hl
        subst hc
        have hb' := hH b (by simp)
        unfold firstSlc at hcell
        split at hcell
        case h_2 => cases hcell
        rename_i blk hblk
        split at hcell
        case h_2 => cases hcell
        rename_i b2 o2 n2 c2 rest hcells
        injection hcell with hcell
        have hlive : h.get b = .live blk := by rw [hb']; exact hblk
        have hat := hI.sim.cells b blk _ hlive hρ
        rw [hcells] at hat
        obtain ⟨cv, k1, k2⟩ := hat 0 _ rfl
        rw [hcell] at k2
        obtain ⟨p, c3, rfl⟩ : ∃ p c3, cv = .slice p n' c3 := by
          rcases VR.slc_cases k2 with ⟨_, _, _, c3, _, _, rfl⟩ | ⟨rfl, a, rfl⟩
          · exact ⟨_, _, rfl⟩
          · exact ⟨_, _, rfl⟩
        unfold Invokes
        rw [run_callFunc_extern hf hname hb hn he]
        have hr := Go.Lib.run_valueLen_slice (P := P) t e i hi hd hpk ⟨cb, co + 0, none⟩ p n' c3 w k1
        simp only [typeHandle] at hr
        rw [hr]
        simp only [Result.andThen]
        exact ⟨ρ, _, rfl, ρ.le_refl, by simp [VR], by simpa [Heap.upds] using hI⟩
      | [], hv => simp [VRs] at hv
      | [_], hv => simp [VRs] at hv
      | [_, _], hv => simp [VRs] at hv
      | _ :: _ :: _ :: _ :: _, hv => simp [VRs] at hv
    | [], hx => simp [VRs] at hx
    | _ :: _ :: _, hx => simp [VRs] at hx

/-! ### arguments that are interfaces' values -/
def unifc (t : TypeId) : List AV → Option (List AV)
  | [] => some []
  | .ifc t' a :: l => if t' = t then (unifc t l).map (a :: ·) else none
  | _ :: _ => none
theorem VRs.unifc {ρ : Ren} {t : TypeId} : ∀ {as bs : List AV} {vs : List Value}, Go.Ab.unifc t as = some bs → VRs ρ as vs → ∃ us, vs = us.map (.iface t) ∧ VRs ρ bs us
  | [], bs, [], h, _ => by simp [Go.Ab.unifc] at h; subst h; exact ⟨[], rfl, trivial⟩
  | [], _, _ :: _, _, h => by simp [VRs] at h
  | a :: as, bs, vs, h, hv => by
    unfold Go.Ab.unifc at h
    split at h
    · rename_i heq; cases heq
    · rename_i t' a' l heq
      injection heq with h1 h2
      subst h1; subst h2
      split at h
      case isFalse => cases h
      rename_i ht
      subst ht
      simp only [Option.map_eq_some_iff] at h
      obtain ⟨l', hl, rfl⟩ := h
      match vs, hv with
      | v :: vs, hv =>
        simp only [VRs, VR] at hv
        obtain ⟨⟨v', rfl, h1⟩, h2⟩ := hv
        obtain ⟨us, rfl, h3⟩ := VRs.unifc hl h2
        exact ⟨v' :: us, rfl, by simp only [VRs]; exact ⟨h1, h3⟩⟩
      | [], hv => simp [VRs] at hv
    · cases h
theorem VRs.ifc {ρ : Ren} {t : TypeId} : ∀ {bs : List AV} {us : List Value}, VRs ρ bs us → VRs ρ (bs.map (.ifc t)) (us.map (.iface t))
  | [], [], _ => trivial
  | b :: bs, u :: us, h => by
    simp only [VRs, List.map_cons, VR] at *
    exact ⟨⟨u, rfl, h.1⟩, VRs.ifc h.2⟩
  | [], _ :: _, h => by simp [VRs] at h
  | _ :: _, [], h => by simp [VRs] at h
def argsI (t : TypeId) (ss : List Sh) (g : FuncId) (cs : List Sh) (x : Sh.Ts ss) : List AV := (Sh.args ss x 0).map (.ifc t) ++ [.fn (.func g) [] (boxPtrs cs (Sh.nes ss + Sh.nes cs))]
/-- Whatever the arguments and what was captured: where the law tells an answer, that is what comes out. -/
def ReadsI (P : Program) (f : FuncId) (t : TypeId) (ss : List Sh) (g : FuncId) (cs rs : List Sh) (law : Sh.Ts ss → Sh.Ts cs → Option (Sh.Ts rs)) : Prop :=
  ∀ x xs y, law x xs = some y → Does P f (argsI t ss g cs x) (heapC ss cs x xs) (outV rs y 0) (heapC ss cs x xs)
def codeLawI (P : Program) (env : Env P) (fuel : Nat) (L : Loops P) (fn : Func) (c : Code) (t : TypeId) (ss : List Sh) (g : FuncId) (cs rs : List Sh) (x : Sh.Ts ss) (xs : Sh.Ts cs) : Option (Sh.Ts rs) :=
  codeK P env (Sh.nes ss + Sh.nes cs + cs.length) fuel L [] (.code c) (argsI t ss g cs x ++ List.replicate (fn.ntmps - (ss.length + 1)) (.val undef)) (heapC ss cs x xs) fun e t h => outK (P := P) fn rs e t h

theorem ReadsI.of_code {P : Program} (hm : P.follows .mixedOrders = true) {f : FuncId} {fn : Func} {c : Code} (hf : P.funcs[f]? = some fn) (hb : fn.body = some c) (hname : (fn.name == "runtime.NumGoroutine") = false)
    (env : Env P) (fuel : Nat) {L : Loops P} (hL : L.fit c) {t : TypeId} {ss : List Sh} {g : FuncId} {cs rs : List Sh} (hrs : Sh.nes rs = 0) : ReadsI P f t ss g cs rs (codeLawI P env fuel L fn c t ss g cs rs) := by
  intro x xs y hxy ρ w cargs hsim hargs
  unfold codeLawI at hxy
  have hlen0 := heapC_length ss cs x xs
  obtain ⟨e, t1, h1, hk, hn1, hg⟩ := codeK_ok hm fuel L [] (.code c) _ _ _ c hL (.inr rfl) (by omega) hxy
  unfold outK at hk
  split at hk
  case h_2 => cases hk
  rename_i hex
  split at hk
  case h_2 => cases hk
  rename_i vs hvs
  split at hk
  case h_2 => cases hk
  rename_i y' bs cc hview
  obtain ⟨hcc, hk⟩ := ifK_some hk
  injection hk with hk; subst hk
  unfold Invokes
  have hcall : (callFunc f cargs).run P w = .ok (.enter f cargs) w := by
    simp only [callFunc, program, Sem.run_bind, Sem.run, Result.andThen, hf]
    simp only [hname, hb, Option.isNone_some, Bool.false_eq_true, if_false]
    rfl
  rw [hcall]
  simp only
  have hlen := hargs.length
  simp only [argsI, List.length_append, List.length_map, args_length, List.length_singleton] at hlen
  refine calls_of_wp hf hb ?_
  have hro : ∀ b blk, Heap.get (heapC ss cs x xs) b = .live blk → blk.rw = false := fun b blk hb => heapC_norw hb
  have hI : Inv ⟨(heapC ss cs x xs).length, ρ, heapC ss cs x xs, w⟩ ρ (heapC ss cs x xs) w :=
    ⟨hsim, fun _ _ => rfl, rfl, rfl, rfl, rfl, Nat.le_refl _, fun _ _ _ => rfl, fun b blk d hb hd hrw hs => by rw [hro b blk hb] at hrw; cases hrw⟩
  have hV : VRs ρ (argsI t ss g cs x ++ List.replicate (fn.ntmps - (ss.length + 1)) (.val undef)) ({ tmps := cargs ++ Array.replicate (fn.ntmps - cargs.size) undef, defers := [] } : Act).tmps.toList := by
    simp only [Array.toList_append, Array.toList_replicate]
    refine hargs.append ?_
    rw [hlen]
    simpa using VRs.replicate (ρ := ρ) (a := .val undef) (v := undef) (by simp [VR]) (fn.ntmps - cargs.size)
  refine wp_mono (hg.2 _ hlen0 ρ w _ hI hV rfl) fun e2 a2 w2 hp => ?_
  obtain ⟨rfl, ρ2, g2, g3, g4⟩ := hp
  obtain ⟨us, cv, k1, k2, k3⟩ := run_results_list (P := P) g2 g3 hvs
  have hva := viewArgs_ok (Q := fun _ => True) g2.sim rs vs us k2 y' bs cc hview (fun b _ => rfl) (fun _ _ => trivial) hcc
  have hout : VR ρ (outV rs y' 0) cv := by
    obtain ⟨c0, hc0, hvv⟩ := hva
    have : c0 = [] := List.length_eq_zero_iff.1 (by rw [hc0, hrs])
    subst this
    refine k3 ρ _ ?_
    have := (hvv ⟨ρ.f, ρ2.base⟩ 0 rfl (fun i d hi => by simp at hi)).1
    exact args_shift rs y' 0 _ (fun k hk => by omega) us this
  have hset := settle hsim hro g2
  cases e2 with
  | ret => exact ⟨g4, cv, k1, ρ, cv, rfl, hout, hset⟩
  | normal => exact ⟨g4, cv, k1, ρ, cv, rfl, hout, hset⟩
  | _ => simp [okExit] at hex
theorem ReadsI.to {P : Program} {f : FuncId} {t : TypeId} {ss : List Sh} {g : FuncId} {cs rs : List Sh} {law law' : Sh.Ts ss → Sh.Ts cs → Option (Sh.Ts rs)} (h : ReadsI P f t ss g cs rs law) (he : ∀ x xs, law x xs = law' x xs) : ReadsI P f t ss g cs rs law' := fun x xs y hxy => h x xs y (by rw [he]; exact hxy)

def readsIS {P : Program} {β : Type} (t : TypeId) (ss : List Sh) (g : FuncId) (cs rs : List Sh) (law : Sh.Ts ss → Sh.Ts cs → Option (Sh.Ts rs)) (H : Nat → Ent) (new : Nat) (args : List AV) (K : Eff → Option β) : Option β :=
  match args.drop ss.length with
  | [.fn (.func g') [] caps] => if g' = g then (match unifc t (args.take ss.length) with
    | some as => (match viewArgs H ss as with
      | some (x, bs, c) => (match viewBoxes H cs caps with
        | some (xs, bs', c') => ifK (c && c') ((law x xs).bind fun y => K { rb := bs ++ bs', val := outV rs y 0 })
        | none => none)
      | none => none)
    | none => none) else none
  | _ => none

def ReadsI.summ {P : Program} {f : FuncId} {t : TypeId} {ss : List Sh} {g : FuncId} {cs rs : List Sh} {law : Sh.Ts ss → Sh.Ts cs → Option (Sh.Ts rs)} (hr : ReadsI P f t ss g cs rs law) (hrs : Sh.nes rs = 0) : Summ P where
  f := f
  S := fun H new args K => readsIS (P := P) t ss g cs rs law H new args K
  ok := by
    intro β H new args K r hs
    unfold readsIS at hs
    split at hs
    case h_2 => cases hs
    rename_i g' caps hdrop
    split at hs
    case isFalse => cases hs
    rename_i hg
    subst hg
    split at hs
    case h_2 => cases hs
    rename_i as has
    split at hs
    case h_2 => cases hs
    rename_i x bs c hv
    split at hs
    case h_2 => cases hs
    rename_i xs bs' c' hvb
    obtain ⟨hc, hs⟩ := ifK_some hs
    simp only [Bool.and_eq_true] at hc
    rw [Option.bind_eq_some_iff] at hs
    obtain ⟨y, hy, hs⟩ := hs
    refine ⟨_, hs, fun Γ ρ h w cargs hI hargs hH hn hfree => ?_⟩
    have hH1 : ∀ b ∈ bs, h.get b = H b := fun b hb => hH b (List.mem_append.2 (.inl hb))
    have hH2 : ∀ b ∈ bs', h.get b = H b := fun b hb => hH b (List.mem_append.2 (.inr hb))
    have hsplit : args = args.take ss.length ++ [.fn (.func g') [] caps] := by rw [← hdrop, List.take_append_drop]
    rw [hsplit] at hargs
    obtain ⟨v1, v2, hv12, hr1, hr2⟩ := VRs.split _ _ _ hargs
    cases v2 with
    | nil => simp [VRs] at hr2
    | cons fv rest =>
      simp only [VRs] at hr2
      have hrest : rest = [] := by
        cases rest with
        | nil => rfl
        | cons => simp [VRs] at hr2
      subst hrest
      have hfv := hr2.1
      simp only [VR] at hfv
      obtain ⟨fs', cs', rfl, hfs, hcs⟩ := hfv
      obtain ⟨u1, rfl, hr3⟩ := VRs.unifc has hr1
      obtain ⟨c1, n1, f1⟩ := viewArgs_ok (Q := fun _ => True) hI.sim ss _ _ hr3 x bs c hv hH1 (fun _ _ => trivial) hc.1
      obtain ⟨c2, d2, n2, m2, f2⟩ := viewBoxes_ok hI.sim cs caps _ hcs xs bs' c' hvb hH2 hc.2
      let ρg : Ren := ⟨fun b => (c1 ++ (c2 ++ d2))[b]?, ρ.base⟩
      obtain ⟨a1, a2⟩ := f1 ρg 0 rfl fun i d hi => by
        show (c1 ++ (c2 ++ d2))[0 + i]? = _
        rw [Nat.zero_add, List.getElem?_append_left (List.getElem?_eq_some_iff.1 hi).1]; exact hi
      obtain ⟨b1, b2, b3⟩ := f2 ρg (Sh.nes ss) (Sh.nes ss + Sh.nes cs) rfl (fun i d hi => by
        show (c1 ++ (c2 ++ d2))[Sh.nes ss + i]? = _
        rw [List.getElem?_append_right (by omega), n1, Nat.add_sub_cancel_left, List.getElem?_append_left (List.getElem?_eq_some_iff.1 hi).1]; exact hi) (fun i d hi => by
        show (c1 ++ (c2 ++ d2))[Sh.nes ss + Sh.nes cs + i]? = _
        rw [List.getElem?_append_right (by omega), n1, List.getElem?_append_right (by omega), n2, show Sh.nes ss + Sh.nes cs + i - Sh.nes ss - Sh.nes cs = i by omega]; exact hi)
      have e1 := entss_length ss x
      have e2 := entss_length cs xs
      have e3 := boxes_length cs xs (Sh.nes ss)
      have hsim : Sim ρg (heapC ss cs x xs) w := by
        refine sim_ro hI.sim.baseLe hI.sim.old (fun b blk hb => heapC_norw hb) (fun b blk hb => ?_) (fun b hb => ?_)
        · have hb := heap_mem hb
          unfold heapC at hb
          by_cases h1 : b < Sh.nes ss
          · rw [List.getElem?_append_left (by omega)] at hb
            obtain ⟨d, h3, h4, _⟩ := a2 b blk hb
            exact ⟨d, by show (c1 ++ (c2 ++ d2))[b]? = _; rw [List.getElem?_append_left (by omega)]; exact h3, h4⟩
          · rw [List.getElem?_append_right (by omega)] at hb
            by_cases h2 : b - Sh.nes ss < Sh.nes cs
            · rw [List.getElem?_append_left (by omega)] at hb
              obtain ⟨d, h3, h4⟩ := b2 _ blk hb
              refine ⟨d, ?_, h4⟩
              show (c1 ++ (c2 ++ d2))[b]? = _
              rw [List.getElem?_append_right (by omega), List.getElem?_append_left (by omega), n1, ← e1]; exact h3
            · rw [List.getElem?_append_right (by omega)] at hb
              obtain ⟨d, h3, h4⟩ := b3 _ blk hb
              refine ⟨d, ?_, h4⟩
              show (c1 ++ (c2 ++ d2))[b]? = _
              rw [List.getElem?_append_right (by omega), List.getElem?_append_right (by omega), n1, n2, ← e1, ← e2]; exact h3
        · show (c1 ++ (c2 ++ d2))[b]? = none
          refine List.getElem?_eq_none ?_
          rcases Nat.lt_or_ge b (heapC ss cs x xs).length with h9 | h9
          · exfalso
            obtain ⟨blk, k1, _⟩ := heapC_ro (ss := ss) (cs := cs) (x := x) (xs := xs) (heapC ss cs x xs)[b] (List.getElem_mem h9)
            simp only [Heap.get, List.getD_eq_getElem?_getD, List.getElem?_eq_getElem h9, Option.getD_some, k1] at hb
            cases hb
          · rw [heapC_length] at h9
            simp; omega
      have hargsg : VRs ρg (argsI t ss g' cs x) cargs.toList := by
        rw [hv12]
        refine (VRs.ifc a1).append ?_
        simp only [VRs, VR]
        exact ⟨⟨fs', cs', rfl, hfs.nil_any, b1⟩, trivial⟩
      refine (hr x xs y hy ρg w cargs hsim hargsg).mono fun e w' ⟨ρg', cv, he, hvv, hJ⟩ => ?_
      obtain ⟨ρ', g1, g2, g3⟩ := after_pure hI (hg := heapC ss cs x xs) (fun b blk hb => heapC_norw hb) (es := []) rfl (by rw [List.append_nil]; exact hJ) hn (fun z h1 h2 => by simp at h2; omega)
      exact ⟨ρ', cv, he, g1, outV_shift rs y 0 0 (fun k hk => by omega) hvv, g3⟩

end Go.Ab
