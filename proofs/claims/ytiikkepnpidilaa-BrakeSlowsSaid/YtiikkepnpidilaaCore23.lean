/-
  CORE 23: functions that write what their first argument points to (parts of a flat shape, a block of their own), and only read the rest.
-/
import Derived.Test.YtiikkepnpidilaaCore22
set_option linter.unusedVariables false
set_option linter.unusedSimpArgs false
namespace Go.Ab

def mEnt (s : Sh) (m : s.T) : Ent := .live { cells := .lit ((s.enc m).map .val), rw := true }
/-- Whatever the arguments and what the first one points to: where the law tells an answer, that is what comes out, and what stands there then. -/
def Acts (P : Program) (f : FuncId) (s : Sh) (ss rs : List Sh) (law : s.T → Sh.Ts ss → Option (s.T × Sh.Ts rs)) : Prop :=
  ∀ m x m' y, law m x = some (m', y) → Does P f (.ptr (Sh.nes ss) 0 :: Sh.args ss x 0) (Sh.entss ss x ++ [mEnt s m]) (outV rs y 0) (Sh.entss ss x ++ [mEnt s m'])

def outM {P : Program} (fn : Func) (s : Sh) (n : Nat) (rs : List Sh) (e : Exit) (t : List AV) (h : Heap) : Option (s.T × Sh.Ts rs) :=
  match okExit e with
  | true => (match resA P t h fn.results.toList with
    | some vs => (match viewArgs h.get rs vs with
      | some (y, _, c) => (match h.get n with
        | .live { cells := .lit cs, rw := true, grow := none } => (match s.dec cs with
          | some (m', []) => ifK c (some (m', y))
          | _ => none)
        | _ => none)
      | none => none)
    | none => none)
  | false => none

def codeLawM (P : Program) (env : Env P) (fuel : Nat) (L : Loops P) (fn : Func) (c : Code) (s : Sh) (ss rs : List Sh) (m : s.T) (x : Sh.Ts ss) : Option (s.T × Sh.Ts rs) :=
  codeK P env (Sh.nes ss + 1) fuel L [] (.code c) (.ptr (Sh.nes ss) 0 :: Sh.args ss x 0 ++ List.replicate (fn.ntmps - (ss.length + 1)) (.val undef)) (Sh.entss ss x ++ [mEnt s m]) fun e t h => outM (P := P) fn s (Sh.nes ss) rs e t h

theorem get_snoc (l : List Ent) (e : Ent) (b : Nat) : Heap.get (l ++ [e]) b = if b < l.length then Heap.get l b else if b = l.length then e else .free := by
  simp only [Heap.get, List.getD_eq_getElem?_getD]
  by_cases h1 : b < l.length
  · rw [if_pos h1, List.getElem?_append_left h1]
  · rw [if_neg h1, List.getElem?_append_right (by omega)]
    by_cases h2 : b = l.length
    · rw [if_pos h2]; subst h2; simp
    · rw [if_neg h2, List.getElem?_eq_none (by simp; omega)]; rfl

theorem vals_free {ρ ρ' : Ren} {w : World} {cb co : Nat} {l : List Value} (h : CellsAt ρ w cb co (.lit (l.map .val))) : CellsAt ρ' w cb co (.lit (l.map .val)) := by
  intro i v hi
  obtain ⟨cv, h1, h2⟩ := h i v hi
  refine ⟨cv, h1, ?_⟩
  simp only [List.getElem?_map, Option.map_eq_some_iff] at hi
  obtain ⟨u, _, rfl⟩ := hi
  simpa [VR] using h2

/-- What may only be read stands as it stood; the one block that is written has new parts. -/
theorem settleM {ρ ρ2 : Ren} {es : List Ent} {s : Sh} {m m' : s.T} (hf : s.flat = true) {h1 : Heap} {w w2 : World} (hS : Sim ρ (es ++ [mEnt s m]) w) (hro : ∀ b blk, Heap.get es b = .live blk → blk.rw = false) (hI : Inv ⟨es.length + 1, ρ, es ++ [mEnt s m], w⟩ ρ2 h1 w2)
    (hm : h1.get es.length = mEnt s m') : Inv ⟨es.length + 1, ρ, es ++ [mEnt s m], w⟩ ρ (es ++ [mEnt s m']) w2 := by
  have getN : Heap.get (es ++ [mEnt s m]) es.length = mEnt s m := by rw [get_snoc]; simp
  have agr : ρ2 es.length = ρ es.length := hI.agree es.length (Nat.lt_succ_self _)
  have hbase : ρ2.base = ρ.base := hI.sameBase
  have hsz : w.heap.size ≤ w2.heap.size := hI.size
  have len : ((s.enc m).map AV.val).length = ((s.enc m').map AV.val).length := by simp [enc_length s m hf, enc_length s m' hf]
  have sol : ∀ c, Blk.solid { cells := .lit ((s.enc m').map .val), rw := true } c → Blk.solid { cells := .lit ((s.enc m).map .val), rw := true } c := fun c hs => by
    unfold Blk.solid at *
    simp only [Cells.len] at *
    rw [len]; exact hs
  have ent : ∀ b blk, Heap.get (es ++ [mEnt s m']) b = .live blk → (b < es.length ∧ Heap.get es b = .live blk ∧ Heap.get (es ++ [mEnt s m]) b = .live blk ∧ blk.rw = false) ∨ (b = es.length ∧ blk = { cells := .lit ((s.enc m').map .val), rw := true }) := fun b blk hb => by
    rw [get_snoc] at hb
    split at hb
    · rename_i hl
      exact .inl ⟨hl, hb, by rw [get_snoc, if_pos hl]; exact hb, hro b blk hb⟩
    · split at hb
      · rename_i h2
        unfold mEnt at hb
        injection hb with hb
        exact .inr ⟨h2, hb.symm⟩
      · cases hb
  have owned_of : ∀ i, Ctx.owned ⟨es.length + 1, ρ, es ++ [mEnt s m], w⟩ i → ∃ c, ρ es.length = some c ∧ Blk.solid { cells := .lit ((s.enc m).map .val), rw := true } c ∧ c.1 = i := by
    rintro i ⟨b, blk, c, hb1, hb2, hb3, hb4, hb5, hb6⟩
    have hb2 : Heap.get (es ++ [mEnt s m]) b = .live blk := hb2
    rw [get_snoc] at hb2
    split at hb2
    · rw [hro b blk hb2] at hb3; cases hb3
    · split at hb2
      · rename_i h2
        unfold mEnt at hb2
        injection hb2 with hb2
        subst hb2
        have hb4 : ρ b = some c := hb4
        rw [h2] at hb4
        exact ⟨c, hb4, hb5, hb6⟩
      · cases hb2
  have keepRo : ∀ b blk c, Heap.get (es ++ [mEnt s m]) b = .live blk → b < es.length → ρ b = some c → blk.solid c → w2.heap[c.1]? = w.heap[c.1]? := fun b blk c hb hlt hc hs => by
    refine hI.keep c.1 (hS.inside b blk c hb hc hs) fun ho => ?_
    obtain ⟨c', k1, k2, k3⟩ := owned_of _ ho
    exact hS.apart es.length b _ blk c' c (by rw [getN]; rfl) hb (by omega) k1 hc rfl k2 hs k3
  have simN : ∀ c, ρ es.length = some c → CellsAt ρ w2 c.1 c.2.1 (.lit ((s.enc m').map .val)) := fun c hc => by
    have := hI.sim.cells es.length _ c (by rw [hm]; rfl) (by rw [agr]; exact hc)
    exact vals_free this
  refine ⟨⟨fun b blk hb => ?_, fun b blk c hb hc => ?_, fun b blk c hb hc hs => ?_, fun b blk c hb hc hr hs => ?_, fun b b' blk blk' c c' hb hb' hne hc hc' hr hs hs' => ?_, fun b hb => ?_, ?_, fun i hi => ?_, fun b blk c hb hc hr hs => ?_⟩, fun _ _ => rfl, rfl, hI.os, hI.tape, hI.output, hI.size, hI.keep, fun b blk c hb hc hr hs => ?_⟩
  · rcases ent b blk hb with ⟨h2, h3, h4, h5⟩ | ⟨h2, h3⟩
    · exact hS.some_ b blk h4
    · subst h2; exact hS.some_ _ _ (by rw [getN]; rfl)
  · rcases ent b blk hb with ⟨h2, h3, h4, h5⟩ | ⟨h2, h3⟩
    · exact (hS.cells b blk c h4 hc).of_cell fun hpos o => cell_of_heap (keepRo b blk c h4 h2 hc (.inl hpos)) o
    · subst h2; subst h3; exact simN c hc
  · rcases ent b blk hb with ⟨h2, h3, h4, h5⟩ | ⟨h2, h3⟩
    · have := hS.inside b blk c h4 hc hs; omega
    · subst h2; subst h3
      exact hI.sim.inside es.length _ c (by rw [hm]; rfl) (by rw [agr]; exact hc) hs
  · rcases ent b blk hb with ⟨h2, h3, h4, h5⟩ | ⟨h2, h3⟩
    · rw [h5] at hr; cases hr
    · subst h2; subst h3
      exact hI.sim.own es.length _ c (by rw [hm]; rfl) (by rw [agr]; exact hc) rfl hs
  · rcases ent b blk hb with ⟨h2, h3, h4, h5⟩ | ⟨h2, h3⟩
    · rw [h5] at hr; cases hr
    · subst h2; subst h3
      rcases ent b' blk' hb' with ⟨k2, k3, k4, k5⟩ | ⟨k2, k3⟩
      · exact hS.apart es.length b' _ blk' c c' (by rw [getN]; rfl) k4 hne hc hc' rfl (sol c hs) hs'
      · exact absurd k2.symm hne
  · refine hS.dom b ?_
    rw [get_snoc] at hb ⊢
    split at hb
    · rename_i hl; rw [if_pos hl]; exact hb
    · rename_i hl
      rw [if_neg hl]
      split at hb
      · cases hb
      · rename_i h2; rw [if_neg h2]
  · have := hS.baseLe; omega
  · have := hI.sim.old i (by rw [hbase]; exact hi)
    rw [this, hbase]
  · rcases ent b blk hb with ⟨h2, h3, h4, h5⟩ | ⟨h2, h3⟩
    · rw [h5] at hr; cases hr
    · subst h2; subst h3
      exact hS.above es.length _ c (by rw [getN]; rfl) hc rfl (sol c hs)
  · rcases ent b blk hb with ⟨h2, h3, h4, h5⟩ | ⟨h2, h3⟩
    · rw [h5] at hr; cases hr
    · subst h2; subst h3
      exact .inr ⟨es.length, _, c, Nat.lt_succ_self _, getN, rfl, hc, sol c hs, rfl⟩

theorem Acts.of_code {P : Program} (hm : P.follows .mixedOrders = true) {f : FuncId} {fn : Func} {c : Code} (hf : P.funcs[f]? = some fn) (hb : fn.body = some c) (hname : (fn.name == "runtime.NumGoroutine") = false)
    (env : Env P) (fuel : Nat) {L : Loops P} (hL : L.fit c) {s : Sh} (hs : s.flat = true) {ss rs : List Sh} (hrs : Sh.nes rs = 0) : Acts P f s ss rs (codeLawM P env fuel L fn c s ss rs) := by
  intro m x m' y hxy ρ w cargs hsim hargs
  unfold codeLawM at hxy
  have hlen0 := entss_length ss x
  obtain ⟨e, t1, h1, hk, hn1, hg⟩ := codeK_ok hm fuel L [] (.code c) _ _ _ c hL (.inr rfl) (by simp [hlen0]) hxy
  unfold outM at hk
  split at hk
  case h_2 => cases hk
  rename_i hex
  split at hk
  case h_2 => cases hk
  rename_i vs hvs
  split at hk
  case h_2 => cases hk
  rename_i y' bs cc hview
  split at hk
  case h_2 => cases hk
  rename_i cs hget
  split at hk
  case h_2 => cases hk
  rename_i m2 hdec
  obtain ⟨hcc, hk⟩ := ifK_some hk
  injection hk with hk; injection hk with hk1 hk2; subst hk1; subst hk2
  unfold Invokes
  have hcall : (callFunc f cargs).run P w = .ok (.enter f cargs) w := by
    simp only [callFunc, program, Sem.run_bind, Sem.run, Result.andThen, hf]
    simp only [hname, hb, Option.isNone_some, Bool.false_eq_true, if_false]
    rfl
  rw [hcall]
  simp only
  have hlen := hargs.length
  simp only [List.length_cons, args_length] at hlen
  refine calls_of_wp hf hb ?_
  have hro : ∀ b blk, Heap.get (Sh.entss ss x) b = .live blk → blk.rw = false := fun b blk hb => entss_norw hb
  have hI : Inv ⟨(Sh.entss ss x).length + 1, ρ, Sh.entss ss x ++ [mEnt s m], w⟩ ρ (Sh.entss ss x ++ [mEnt s m]) w := by
    refine ⟨hsim, fun _ _ => rfl, rfl, rfl, rfl, rfl, Nat.le_refl _, fun _ _ _ => rfl, fun b blk d hb hd hrw hs => ?_⟩
    refine .inr ⟨b, blk, d, ?_, hb, hrw, hd, hs, rfl⟩
    rw [get_snoc] at hb
    show b < _ + 1
    split at hb
    · omega
    · split at hb
      · omega
      · cases hb
  have hV : VRs ρ (.ptr (Sh.nes ss) 0 :: Sh.args ss x 0 ++ List.replicate (fn.ntmps - (ss.length + 1)) (.val undef)) ({ tmps := cargs ++ Array.replicate (fn.ntmps - cargs.size) undef, defers := [] } : Act).tmps.toList := by
    simp only [Array.toList_append, Array.toList_replicate]
    refine hargs.append ?_
    rw [hlen]
    simpa using VRs.replicate (ρ := ρ) (a := .val undef) (v := undef) (by simp [VR]) (fn.ntmps - cargs.size)
  have hΓ : (Sh.entss ss x).length + 1 = Sh.nes ss + 1 := by omega
  refine wp_mono (hg.2 _ hΓ ρ w _ hI hV rfl) fun e2 a2 w2 hp => ?_
  obtain ⟨rfl, ρ2, g2, g3, g4⟩ := hp
  obtain ⟨us, cv, k1, k2, k3⟩ := run_results_list (P := P) g2 g3 hvs
  have hva := viewArgs_ok (Q := fun _ => True) g2.sim rs vs us k2 y' bs cc hview (fun b _ => rfl) (fun _ _ => trivial) hcc
  have hout : VR ρ (outV rs y' 0) cv := by
    obtain ⟨c0, hc0, hvv⟩ := hva
    have : c0 = [] := List.length_eq_zero_iff.1 (by rw [hc0, hrs])
    subst this
    refine k3 ρ _ ?_
    have := (hvv ⟨ρ.f, ρ2.base⟩ 0 rfl (fun i d hi => by simp at hi)).1
    exact args_shift rs y' 0 _ (fun k hk => by omega) us this
  obtain ⟨hfl, hcs⟩ := dec_ok s cs m2 [] hdec
  rw [List.append_nil] at hcs
  have hset := settleM hs hsim hro g2 (m' := m2) (by rw [hlen0, hget, hcs]; rfl)
  have hfin : ∃ ρ' cv', cv = cv' ∧ VR ρ' (outV rs y' 0) cv' ∧ Inv ⟨(Sh.entss ss x ++ [mEnt s m]).length, ρ, Sh.entss ss x ++ [mEnt s m], w⟩ ρ' (Sh.entss ss x ++ [mEnt s m2]) w2 :=
    ⟨ρ, cv, rfl, hout, by rw [List.length_append]; exact hset⟩
  obtain ⟨ρ', cv', h7, h8, h9⟩ := hfin
  subst h7
  cases e2 with
  | ret => exact ⟨g4, cv, k1, ρ', cv, rfl, h8, h9⟩
  | normal => exact ⟨g4, cv, k1, ρ', cv, rfl, h8, h9⟩
  | _ => simp [okExit] at hex

theorem Acts.to {P : Program} {f : FuncId} {s : Sh} {ss rs : List Sh} {law law' : s.T → Sh.Ts ss → Option (s.T × Sh.Ts rs)} (h : Acts P f s ss rs law) (he : ∀ m x, law m x = law' m x) : Acts P f s ss rs law' := fun m x m' y hxy => h m x m' y (by rw [he]; exact hxy)

/-! ### to call it -/
def actsS {P : Program} {β : Type} (s : Sh) (ss rs : List Sh) (law : s.T → Sh.Ts ss → Option (s.T × Sh.Ts rs)) (H : Nat → Ent) (new : Nat) (args : List AV) (K : Eff → Option β) : Option β :=
  match args with
  | .ptr b 0 :: rest => (match H b with
    | .live { cells := .lit cs, rw := true, grow := none } => (match s.dec cs with
      | some (m, []) => (match viewArgs H ss rest with
        | some (x, bs, c) => (match bs.contains b with
          | true => none
          | false => ifK c ((law m x).bind fun r => K { rb := b :: bs, wb := [(b, mEnt s r.1)], val := outV rs r.2 0 }))
        | none => none)
      | _ => none)
    | _ => none)
  | _ => none

/-- Behind the call: the one block has new parts. -/
theorem after_mut {Γ : Ctx} {ρ : Ren} {h : Heap} {w : World} (hI : Inv Γ ρ h w) {s : Sh} (hf : s.flat = true) {b : Nat} {m m' : s.T} (hb : h.get b = mEnt s m) {es : List Ent} (hro : ∀ i blk, Heap.get es i = .live blk → blk.rw = false) {ρg ρg' : Ren} (hρ : ρg es.length = ρ b) (hgb : ρg.base = ρ.base) {w' : World}
    (hJ : Inv ⟨(es ++ [mEnt s m]).length, ρg, es ++ [mEnt s m], w⟩ ρg' (es ++ [mEnt s m']) w') : Inv Γ ρ (h.upd b (mEnt s m')) w' := by
  have getN : ∀ m, Heap.get (es ++ [mEnt s m]) es.length = mEnt s m := fun m => by rw [get_snoc]; simp
  have agr : ρg' es.length = ρ b := by rw [← hρ]; exact hJ.agree es.length (by simp)
  have hsz : w.heap.size ≤ w'.heap.size := hJ.size
  have len : ((s.enc m).map AV.val).length = ((s.enc m').map AV.val).length := by simp [enc_length s m hf, enc_length s m' hf]
  have sol : ∀ c, Blk.solid { cells := .lit ((s.enc m').map .val), rw := true } c → Blk.solid { cells := .lit ((s.enc m).map .val), rw := true } c := fun c hs => by
    unfold Blk.solid at *
    simp only [Cells.len] at *
    rw [len]; exact hs
  have ent : ∀ x blk, (h.upd b (mEnt s m')).get x = .live blk → (x ≠ b ∧ h.get x = .live blk) ∨ (x = b ∧ blk = { cells := .lit ((s.enc m').map .val), rw := true }) := fun x blk hx => by
    rw [Heap.get_upd] at hx
    by_cases hxb : x = b
    · rw [if_pos hxb] at hx
      unfold mEnt at hx
      injection hx with hx
      exact .inr ⟨hxb, hx.symm⟩
    · rw [if_neg hxb] at hx; exact .inl ⟨hxb, hx⟩
  have owned_of : ∀ i, Ctx.owned ⟨(es ++ [mEnt s m]).length, ρg, es ++ [mEnt s m], w⟩ i → ∃ c, ρ b = some c ∧ Blk.solid { cells := .lit ((s.enc m).map .val), rw := true } c ∧ c.1 = i := by
    rintro i ⟨k, blk, c, hb1, hb2, hb3, hb4, hb5, hb6⟩
    have hb2 : Heap.get (es ++ [mEnt s m]) k = .live blk := hb2
    rw [get_snoc] at hb2
    split at hb2
    · rw [hro k blk hb2] at hb3; cases hb3
    · split at hb2
      · rename_i h2
        unfold mEnt at hb2
        injection hb2 with hb2
        subst hb2
        have hb4 : ρg k = some c := hb4
        rw [h2, hρ] at hb4
        exact ⟨c, hb4, hb5, hb6⟩
      · cases hb2
  have keep : ∀ y yb d, y ≠ b → h.get y = .live yb → ρ y = some d → yb.solid d → w'.heap[d.1]? = w.heap[d.1]? := fun y yb d hy hyb hd hs => by
    refine hJ.keep d.1 (hI.sim.inside y yb d hyb hd hs) fun ho => ?_
    obtain ⟨c, k1, k2, k3⟩ := owned_of _ ho
    exact hI.sim.apart b y _ yb c d (by rw [hb]; rfl) hyb (Ne.symm hy) k1 hd rfl k2 hs k3
  refine ⟨⟨?_, ?_, ?_, ?_, ?_, ?_, ?_, ?_, ?_⟩, hI.agree, hI.sameBase, hJ.os.trans hI.os, hJ.tape.trans hI.tape, hJ.output.trans hI.output, Nat.le_trans hI.size hsz, ?_, ?_⟩
  · intro x blk hx
    rcases ent x blk hx with ⟨h1, h2⟩ | ⟨h1, h2⟩
    · exact hI.sim.some_ x blk h2
    · rw [h1]; exact hI.sim.some_ b _ (by rw [hb]; rfl)
  · intro x blk c hx hc
    rcases ent x blk hx with ⟨h1, h2⟩ | ⟨h1, h2⟩
    · exact (hI.sim.cells x blk c h2 hc).of_cell fun hpos o => cell_of_heap (keep x blk c h1 h2 hc (.inl hpos)) o
    · subst h1; subst h2
      exact vals_free (hJ.sim.cells es.length _ c (by rw [getN]; rfl) (by rw [agr]; exact hc))
  · intro x blk c hx hc hs
    rcases ent x blk hx with ⟨h1, h2⟩ | ⟨h1, h2⟩
    · have := hI.sim.inside x blk c h2 hc hs; omega
    · subst h1; subst h2
      exact hJ.sim.inside es.length _ c (by rw [getN]; rfl) (by rw [agr]; exact hc) hs
  · intro x blk c hx hc hr hs
    rcases ent x blk hx with ⟨h1, h2⟩ | ⟨h1, h2⟩
    · obtain ⟨k1, cs, el, k2, k3⟩ := hI.sim.own x blk c h2 hc hr hs
      exact ⟨k1, cs, el, by rw [keep x blk c h1 h2 hc hs]; exact k2, k3⟩
    · subst h1; subst h2
      exact hJ.sim.own es.length _ c (by rw [getN]; rfl) (by rw [agr]; exact hc) rfl hs
  · intro x y xb yb c d hx hy hne hc hd hr hs hs'
    rcases ent x xb hx with ⟨h1, h2⟩ | ⟨h1, h2⟩
    · rcases ent y yb hy with ⟨k1, k2⟩ | ⟨k1, k2⟩
      · exact hI.sim.apart x y xb yb c d h2 k2 hne hc hd hr hs hs'
      · subst k1; subst k2
        exact (hI.sim.apart y x _ xb d c (by rw [hb]; rfl) h2 (Ne.symm hne) hd hc rfl (sol d hs') hs).symm
    · subst h1; subst h2
      rcases ent y yb hy with ⟨k1, k2⟩ | ⟨k1, k2⟩
      · exact hI.sim.apart x y _ yb c d (by rw [hb]; rfl) k2 hne hc hd rfl (sol c hs) hs'
      · exact absurd k1.symm hne
  · intro x hx
    rw [Heap.get_upd] at hx
    split at hx
    · cases hx
    · exact hI.sim.dom x hx
  · have := hI.sim.baseLe; omega
  · intro i hi
    have h1 := hJ.sim.old i (by rw [show ρg'.base = ρg.base from hJ.sameBase, hgb]; exact hi)
    rw [h1, show ρg'.base = ρg.base from hJ.sameBase, hgb]
  · intro x blk c hx hc hr hs
    rcases ent x blk hx with ⟨h1, h2⟩ | ⟨h1, h2⟩
    · exact hI.sim.above x blk c h2 hc hr hs
    · subst h1; subst h2
      exact hI.sim.above x _ c (by rw [hb]; rfl) hc rfl (sol c hs)
  · intro i hi hno
    have hi2 : i < w.heap.size := by have := hI.size; omega
    rw [show w'.heap[i]? = w.heap[i]? from hJ.keep i hi2 fun ho => ?_]
    · exact hI.keep i hi hno
    · obtain ⟨c, k1, k2, k3⟩ := owned_of _ ho
      rcases hI.fresh b _ c (by rw [hb]; rfl) k1 rfl k2 with h1 | h1
      · omega
      · rw [k3] at h1; exact hno h1
  · intro x blk c hx hc hr hs
    rcases ent x blk hx with ⟨h1, h2⟩ | ⟨h1, h2⟩
    · exact hI.fresh x blk c h2 hc hr hs
    · subst h1; subst h2
      exact hI.fresh x _ c (by rw [hb]; rfl) hc rfl (sol c hs)

def Acts.summ {P : Program} {f : FuncId} {s : Sh} {ss rs : List Sh} {law : s.T → Sh.Ts ss → Option (s.T × Sh.Ts rs)} (hr : Acts P f s ss rs law) (hrs : Sh.nes rs = 0) : Summ P where
  f := f
  S := fun H new args K => actsS (P := P) s ss rs law H new args K
  ok := by
    intro β H new args K r hs
    unfold actsS at hs
    split at hs
    case h_2 => cases hs
    rename_i b rest
    split at hs
    case h_2 => cases hs
    rename_i cs hHb
    split at hs
    case h_2 => cases hs
    rename_i m hdec
    split at hs
    case h_2 => cases hs
    rename_i x bs c hv
    split at hs
    · cases hs
    rename_i hnb
    obtain ⟨hc, hs⟩ := ifK_some hs
    rw [Option.bind_eq_some_iff] at hs
    obtain ⟨⟨m', y⟩, hy, hs⟩ := hs
    refine ⟨_, hs, fun Γ ρ h w cargs hI hargs hH hn hfree => ?_⟩
    obtain ⟨hfl, hcs⟩ := dec_ok s cs m [] hdec
    rw [List.append_nil] at hcs
    have hb : h.get b = mEnt s m := by rw [hH b (List.mem_cons_self ..), hHb, hcs]; rfl
    cases hca : cargs.toList with
    | nil => rw [hca] at hargs; simp [VRs] at hargs
    | cons a0 as0 =>
      rw [hca] at hargs
      simp only [VRs] at hargs
      obtain ⟨hp, hrest⟩ := hargs
      have bsne : ∀ b' ∈ bs, b' ≠ b := fun b' hb' e => by
        subst e
        have : bs.contains b' = true := by simpa using hb'
        rw [this] at hnb; cases hnb
      have hvw := viewArgs_ok (Q := fun b' => b' ≠ b) hI.sim ss rest as0 hrest x bs c hv (fun b' hb' => hH b' (List.mem_cons_of_mem _ hb')) bsne hc
      obtain ⟨ρv, hvb, h1, h2, h9⟩ := sim_views hI.sim.baseLe hI.sim.old hvw
      have hlen := entss_length ss x
      let ρg : Ren := ⟨fun i => if i = (Sh.entss ss x).length then ρ b else if i < (Sh.entss ss x).length then ρv i else none, ρ.base⟩
      have ρlt : ∀ i, i < (Sh.entss ss x).length → ρg i = ρv i := fun i hi => by
        simp only [ρg]; rw [if_neg (by omega), if_pos hi]
      have ρN : ρg (Sh.entss ss x).length = ρ b := by simp only [ρg]; rw [if_pos trivial]
      have vle2 : ρv.le ρg := ⟨fun i d hi => by
        by_cases hl : i < (Sh.entss ss x).length
        · rw [ρlt i hl]; exact hi
        · have := h2.dom i (by simp [Heap.get, List.getD_eq_getElem?_getD, List.getElem?_eq_none (show (Sh.entss ss x).length ≤ i by omega)])
          rw [this] at hi; exact absurd hi (by simp), hvb.symm⟩
      have ent : ∀ i blk, Heap.get (Sh.entss ss x ++ [mEnt s m]) i = .live blk → (i < (Sh.entss ss x).length ∧ Heap.get (Sh.entss ss x) i = .live blk ∧ blk.rw = false) ∨ (i = (Sh.entss ss x).length ∧ h.get b = .live blk ∧ blk = { cells := .lit ((s.enc m).map .val), rw := true }) := fun i blk hi => by
        rw [get_snoc] at hi
        split at hi
        · rename_i hl; exact .inl ⟨hl, hi, entss_norw hi⟩
        · split at hi
          · rename_i h9; exact .inr ⟨h9, by rw [hb]; exact hi, by unfold mEnt at hi; injection hi with hi; exact hi.symm⟩
          · cases hi
      have solro : ∀ (blk : Blk) d, blk.rw = false → blk.solid d → 0 < blk.cells.len := fun blk d hr hs => by
        rcases hs with hs | hs
        · exact hs
        · rw [hr] at hs; exact absurd hs.1 (by simp)
      have hsim : Sim ρg (Sh.entss ss x ++ [mEnt s m]) w := by
        refine ⟨fun i blk hi => ?_, fun i blk d hi hd => ?_, fun i blk d hi hd hs => ?_, fun i blk d hi hd hr hs => ?_, fun i j blk blk' d d' hi hj hij hd hd' hr hs hs' => ?_, fun i hi => ?_, hI.sim.baseLe, hI.sim.old, fun i blk d hi hd hr hs => ?_⟩
        · rcases ent i blk hi with ⟨k1, k2, k3⟩ | ⟨k1, k2, k3⟩
          · rw [ρlt i k1]; exact h2.some_ i blk k2
          · rw [k1, ρN]; exact hI.sim.some_ b blk k2
        · rcases ent i blk hi with ⟨k1, k2, k3⟩ | ⟨k1, k2, k3⟩
          · rw [ρlt i k1] at hd; exact (h2.cells i blk d k2 hd).mono vle2
          · rw [k1, ρN] at hd
            have := hI.sim.cells b blk d k2 hd
            rw [k3] at this ⊢
            exact vals_free this
        · rcases ent i blk hi with ⟨k1, k2, k3⟩ | ⟨k1, k2, k3⟩
          · rw [ρlt i k1] at hd; exact h2.inside i blk d k2 hd hs
          · rw [k1, ρN] at hd; exact hI.sim.inside b blk d k2 hd hs
        · rcases ent i blk hi with ⟨k1, k2, k3⟩ | ⟨k1, k2, k3⟩
          · rw [k3] at hr; cases hr
          · rw [k1, ρN] at hd; exact hI.sim.own b blk d k2 hd hr hs
        · rcases ent i blk hi with ⟨k1, k2, k3⟩ | ⟨k1, k2, k3⟩
          · rw [k3] at hr; cases hr
          · rw [k1, ρN] at hd
            rcases ent j blk' hj with ⟨j1, j2, j3⟩ | ⟨j1, j2, j3⟩
            · rw [ρlt j j1] at hd'
              obtain ⟨b', bk, cc, q1, q2, q3, q4, q5⟩ := h9 j blk' d' j2 hd' (solro blk' d' j3 hs')
              rw [← q5]
              exact hI.sim.apart b b' blk bk d cc k2 q2 (Ne.symm q1) hd q3 hr hs q4
            · exact absurd (k1.trans j1.symm) hij
        · by_cases hl : i < (Sh.entss ss x).length
          · rw [ρlt i hl]; refine h2.dom i ?_
            rw [get_snoc, if_pos hl] at hi; exact hi
          · by_cases hl2 : i = (Sh.entss ss x).length
            · rw [get_snoc, if_neg hl, if_pos hl2] at hi; cases hi
            · simp only [ρg]; rw [if_neg hl2, if_neg hl]
        · rcases ent i blk hi with ⟨k1, k2, k3⟩ | ⟨k1, k2, k3⟩
          · rw [k3] at hr; cases hr
          · rw [k1, ρN] at hd; exact hI.sim.above b blk d k2 hd hr hs
      have hargsg : VRs ρg (.ptr (Sh.nes ss) 0 :: Sh.args ss x 0) cargs.toList := by
        rw [hca]
        simp only [VRs]
        refine ⟨?_, VRs.mono vle2 _ _ h1⟩
        simp only [VR] at hp ⊢
        rw [← hlen, ρN]; exact hp
      refine (hr m x m' y hy ρg w cargs hsim hargsg).mono fun e w' ⟨ρg', cv, he, hvv, hJ⟩ => ?_
      have hfin := after_mut hI hfl hb (es := Sh.entss ss x) (fun i blk hi => entss_norw hi) (ρg := ρg) ρN rfl hJ
      exact ⟨ρ, cv, he, Ren.le_refl ρ, outV_shift rs y 0 0 (fun k hk => by omega) hvv, hfin⟩

end Go.Ab
