/- An engine that names no program: what code does to what memory shows, evaluated over abstract values and an abstract heap, and that it is so. -/
import Derived.Test.YtnpmcpodpdimpaaCoree
import Derived.RangeFuncIn
import Derived.RangeFuncRecord
import Derived.RangeFuncNested
/-
  CORE 28: ranges over functions: the iterator's code runs, and each of its calls of yield is a round in the caller's frame.
-/
set_option linter.unusedVariables false
set_option linter.unusedSimpArgs false
namespace Go.Ab

/-! ### values that name no yield -/
mutual
def noYA : AV → Bool
  | .fn f a b => (match f with
    | .yield _ => false
    | _ => true) && (noYL a && noYL b)
  | .agg l => noYL l
  | .tup l => noYL l
  | .ifc _ v => noYA v
  | .any => true
  | .val _ => true
  | .ptr .. => true
  | .elt .. => true
  | .slc .. => true
def noYL : List AV → Bool
  | [] => true
  | a :: l => noYA a && noYL l
end
def noYE : List Ent → Bool
  | [] => true
  | .live b :: l => (match b.cells with
    | .lit l => noYL l
    | _ => true) && noYE l
  | _ :: l => noYE l

mutual
theorem VR.noY {ρ ρ' : Ren} (hf : ∀ b, ρ' b = ρ b) : ∀ (v : AV) (cv : Value), noYA v = true → VR ρ v cv → VR ρ' v cv
  | .any, _, _, _ => by simp [VR]
  | .val v, cv, _, h => by simpa [VR] using h
  | .ptr b o, cv, _, h => by simpa only [VR, hf] using h
  | .elt b o i w f, cv, _, h => by simpa only [VR, hf] using h
  | .slc b o n (.exact c), cv, _, h => by simpa only [VR, hf] using h
  | .slc b o n .unk, cv, _, h => by simpa only [VR, hf] using h
  | .slc b o n .low, cv, _, h => by simpa only [VR, hf] using h
  | .slc b o n .part, cv, _, h => by simpa only [VR, hf] using h
  | .slc b o n .nn, cv, _, h => by simpa only [VR, hf] using h
  | .fn f a b, cv, hn, h => by
    simp only [noYA, Bool.and_eq_true] at hn
    simp only [VR] at h ⊢
    obtain ⟨x, y, h1, h2, h3⟩ := h
    refine ⟨x, y, ?_, VRs.noY hf a _ hn.2.1 h2, VRs.noY hf b _ hn.2.2 h3⟩
    cases f with
    | yield k => simp at hn
    | _ => exact h1
  | .agg l, cv, hn, h => by
    simp only [noYA] at hn
    simp only [VR] at h ⊢
    obtain ⟨x, h1, h2⟩ := h
    exact ⟨x, h1, VRs.noY hf l _ hn h2⟩
  | .tup l, cv, hn, h => by
    simp only [noYA] at hn
    simp only [VR] at h ⊢
    obtain ⟨x, h1, h2⟩ := h
    exact ⟨x, h1, VRs.noY hf l _ hn h2⟩
  | .ifc t v, cv, hn, h => by
    simp only [noYA] at hn
    simp only [VR] at h ⊢
    obtain ⟨x, h1, h2⟩ := h
    exact ⟨x, h1, VR.noY hf v _ hn h2⟩
theorem VRs.noY {ρ ρ' : Ren} (hf : ∀ b, ρ' b = ρ b) : ∀ (l : List AV) (cs : List Value), noYL l = true → VRs ρ l cs → VRs ρ' l cs
  | [], [], _, _ => by simp [VRs]
  | a :: l, v :: cs, hn, h => by
    simp only [noYL, Bool.and_eq_true] at hn
    simp only [VRs] at h ⊢
    exact ⟨VR.noY hf a v hn.1 h.1, VRs.noY hf l cs hn.2 h.2⟩
  | [], _ :: _, _, h => by simp [VRs] at h
  | _ :: _, [], _, h => by simp [VRs] at h
end
theorem noYL_get : ∀ (l : List AV) (i : Nat) (a : AV), noYL l = true → l[i]? = some a → noYA a = true
  | [], i, a, _, h => by simp at h
  | x :: l, 0, a, hn, h => by simp only [noYL, Bool.and_eq_true] at hn; simp at h; subst h; exact hn.1
  | x :: l, i + 1, a, hn, h => by simp only [noYL, Bool.and_eq_true] at hn; exact noYL_get l i a hn.2 (by simpa using h)
theorem noYE_get : ∀ (l : List Ent) (i : Nat) (b : Blk), noYE l = true → l[i]? = some (.live b) → ∀ cs, b.cells = .lit cs → noYL cs = true
  | [], i, b, _, h => by simp at h
  | e :: l, 0, b, hn, h => by
    simp at h; subst h
    intro cs hcs
    simp only [noYE, hcs, Bool.and_eq_true] at hn; exact hn.1
  | e :: l, i + 1, b, hn, h => by
    have hn : noYE l = true := by
      cases e with
      | live b' => simp only [noYE, Bool.and_eq_true] at hn; exact hn.2
      | free => simpa [noYE] using hn
      | dead => simpa [noYE] using hn
    exact noYE_get l i b hn (by simpa using h)
theorem RowIn.heap {W W' : World} (hW : W'.heap = W.heap) {cv : Value} {r : List Value} (h : RowIn W cv r) : RowIn W' cv r := by
  have hc : ∀ a, W'.cell? a = W.cell? a := fun a => by simp [World.cell?, hW]
  rcases h with h | ⟨b, o, c, h1, h2, h3⟩
  · exact .inl h
  · exact .inr ⟨b, o, c, h1, h2, fun j v hj => by rw [hc]; exact h3 j v hj⟩
theorem Sim.noY {ρ ρ' : Ren} {h : Heap} {w : World} (hS : Sim ρ h w) (hf : ∀ b, ρ' b = ρ b) (hb : ρ'.base.heap = ρ.base.heap) (hn : noYE h = true) : Sim ρ' h w := by
  refine ⟨fun b blk hl => by rw [hf]; exact hS.some_ b blk hl, fun b blk c hl hc => ?_, fun b blk c hl hc => hS.inside b blk c hl (by rw [← hf]; exact hc), fun b blk c hl hc => hS.own b blk c hl (by rw [← hf]; exact hc),
    fun b b' blk blk' c c' hl hl' hne hc hc' => hS.apart b b' blk blk' c c' hl hl' hne (by rw [← hf]; exact hc) (by rw [← hf]; exact hc'), fun b hl => by rw [hf]; exact hS.dom b hl, by rw [hb]; exact hS.baseLe, fun i hi => by rw [hb]; exact hS.old i (by rw [← hb]; exact hi), fun b blk c hl hc hr hs => by rw [hb]; exact hS.above b blk c hl (by rw [← hf]; exact hc) hr hs⟩
  have := hS.cells b blk c hl (by rw [← hf]; exact hc)
  cases hk : blk.cells with
  | lit l =>
    rw [hk] at this
    intro i v hi
    obtain ⟨cv, h1, h2⟩ := this i v hi
    exact ⟨cv, h1, VR.noY hf v cv (noYL_get l i v (noYE_get h b blk hn (heap_mem hl) l hk) hi) h2⟩
  | sym l => rw [hk] at this; exact this
  | arr s l => rw [hk] at this; exact this
  | rows l =>
    rw [hk] at this
    intro i r hi
    obtain ⟨cv, h1, h2⟩ := this i r hi
    exact ⟨cv, h1, h2.heap hb⟩
  | arrs s l =>
    rw [hk] at this
    intro i r hi
    obtain ⟨cv, h1, h2⟩ := this i r hi
    exact ⟨cv, h1, h2.heap hb⟩

/-! ### what is known of the context -/
theorem okA_mono_aux {m n : Nat} (h : m ≤ n) : (∀ a : AV, okA m a = true → okA n a = true) := by
  intro a
  refine AV.rec (motive_1 := fun a => okA m a = true → okA n a = true) (motive_2 := fun l => okL m l = true → okL n l = true) ?_ ?_ ?_ ?_ ?_ ?_ ?_ ?_ ?_ ?_ ?_ a <;> intros <;> simp_all [okA, okL] <;> omega
theorem okL_mono {m n : Nat} (h : m ≤ n) : ∀ (l : List AV), okL m l = true → okL n l = true
  | [], _ => by simp [okL]
  | a :: l, hl => by
    simp only [okL, Bool.and_eq_true] at hl ⊢
    exact ⟨okA_mono_aux h a hl.1, okL_mono h l hl.2⟩
theorem VRs.agree {ρ0 ρ : Ren} {n : Nat} (ha : ∀ b, b < n → ρ b = ρ0 b) (hb : ρ.base = ρ0.base) {l : List AV} {cs : List Value} (hk : okL n l = true) (h : VRs ρ0 l cs) : VRs ρ l cs := by
  refine VRs.mono (ρ := ρ0.below n) ⟨fun b c hc => ?_, hb⟩ _ _ (VRs.below _ _ hk h)
  unfold Ren.below at hc
  simp only at hc
  split at hc
  · rename_i hlt; rw [ha b hlt]; exact hc
  · cases hc

/-- A range over a function under way: the caller's slots, the loop's variables, its code. -/
structure Yi where
  t : List AV
  ps : Array Tmp
  asg : Code
  body : Code
def Yi.rec_ (yi : Yi) (fn : FuncId) (tmps : Array Value) (D : Nat) (s : LoopState) : Loop := { state := s, pending := none, fn, tmps, params := yi.ps, assign := yi.asg, body := yi.body, defers := D }
def Yi.ok (yi : Yi) (Γ : Ctx) : Prop :=
  okL Γ.n0 yi.t = true ∧ ∃ fn tmps D, Γ.w0.heap[Γ.ρ0.base.drawn]? = some (.loop (yi.rec_ fn tmps D .ready)) ∧ VRs Γ.ρ0 yi.t tmps.toList ∧ ¬ Γ.owned Γ.ρ0.base.drawn ∧ Γ.ρ0.base.heap.size ≤ Γ.ρ0.base.drawn
theorem Yi.at_ {yi : Yi} {Γ : Ctx} {ρ : Ren} {h : Heap} {w : World} (hY : yi.ok Γ) (hI : Inv Γ ρ h w) : ∃ fn tmps D, w.heap[ρ.base.drawn]? = some (.loop (yi.rec_ fn tmps D .ready)) ∧ VRs ρ yi.t tmps.toList ∧ ρ.base.heap.size ≤ ρ.base.drawn := by
  obtain ⟨h1, fn, tmps, D, h2, h3, h4, h5⟩ := hY
  refine ⟨fn, tmps, D, ?_, VRs.agree hI.agree hI.sameBase h1 h3, by rw [hI.sameBase]; exact h5⟩
  rw [hI.sameBase, hI.keep _ (Array.getElem?_eq_some_iff.1 h2).1 h4]; exact h2
theorem Yi.stable (yi : Yi) : Stable yi.ok := fun Γ ρ h w hY hI hn => by
  obtain ⟨fn, tmps, D, h1, h2, h3⟩ := Yi.at_ (yi := yi) hY hI
  exact ⟨okL_mono hn _ hY.1, fn, tmps, D, h1, h2, hI.sim.not_owned h1 (by simp), h3⟩

/-! ### one round -/
theorem Inv.self {ρ : Ren} {h : Heap} {w : World} (hS : Sim ρ h w) : Inv ⟨h.length, ρ, h, w⟩ ρ h w := by
  refine ⟨hS, fun _ _ => rfl, rfl, rfl, rfl, rfl, Nat.le_refl _, fun _ _ _ => rfl, fun b blk d hb hd hrw hs => ?_⟩
  refine .inr ⟨b, blk, d, ?_, hb, hrw, hd, hs, rfl⟩
  rcases Nat.lt_or_ge b h.length with h' | h'
  · exact h'
  · simp [Heap.get, List.getD_eq_getElem?_getD, List.getElem?_eq_none h'] at hb
theorem Sim.putObj {ρ : Ren} {h : Heap} {w : World} (hS : Sim ρ h w) {D : Nat} {o o' : Obj} (hD : w.heap[D]? = some o) (ho : ∀ cs e q, o ≠ .cells cs e q) (ho' : ∀ cs e q, o' ≠ .cells cs e q) (hb : ρ.base.heap.size ≤ D) : Sim ρ h (w.putObj D o') := by
  have hc := cell_putObj hD ho ho'
  refine ⟨hS.some_, fun b blk c hb hρ => (hS.cells b blk c hb hρ).of_cell fun _ o => hc _, fun b blk c hb hρ hso => by simpa using hS.inside b blk c hb hρ hso, fun b blk c hb hρ hrw hso => ?_, hS.apart, hS.dom, by simpa using hS.baseLe, fun i hi => by rw [World.putObj_heap_other (by omega)]; exact hS.old i hi, hS.above⟩
  obtain ⟨h1, cs, e, h2, h3⟩ := hS.own b blk c hb hρ hrw hso
  refine ⟨h1, cs, e, ?_, h3⟩
  rw [World.putObj_heap_other (fun e' => ?_)]
  · exact h2
  · subst e'; rw [hD] at h2; injection h2 with h2; exact absurd h2 (ho _ _ _)
/-- The record is turned ahead of the round and turned back behind it. -/
theorem Inv.round {Γ : Ctx} {ρ ρ3 : Ren} {h h3 : Heap} {w w3 : World} (hI : Inv Γ ρ h w) (hn : Γ.n0 ≤ h.length) {l : Nat} {o o' : Obj} (hl : w.heap[l]? = some o) (ho : ∀ cs e q, o ≠ .cells cs e q) (ho' : ∀ cs e q, o' ≠ .cells cs e q) (hb : ρ.base.heap.size ≤ l)
    (hJ : Inv ⟨h.length, ρ, h, w.putObj l o'⟩ ρ3 h3 w3) : Inv Γ ρ3 h3 (w3.putObj l o) := by
  have hlt : l < w.heap.size := (Array.getElem?_eq_some_iff.1 hl).1
  have hl2 : (w.putObj l o').heap[l]? = some o' := World.putObj_heap_same hlt
  have hS2 : Sim ρ h (w.putObj l o') := hI.sim.putObj hl ho ho' hb
  have hl3 : w3.heap[l]? = some o' := by
    rw [hJ.keep l (by simpa using hlt) (hS2.not_owned hl2 ho')]; exact hl2
  have hlt3 : l < w3.heap.size := (Array.getElem?_eq_some_iff.1 hl3).1
  refine hI.trans hn ⟨hJ.sim.putObj hl3 ho' ho (by rw [hJ.sameBase]; exact hb), hJ.agree, hJ.sameBase, hJ.os, hJ.tape, hJ.output, by have := hJ.size; simpa using this, fun i hi hno => ?_, fun b blk c hb hc hr hs => ?_⟩
  · by_cases e : i = l
    · subst e; rw [World.putObj_heap_same hlt3, hl]
    · rw [World.putObj_heap_other e, hJ.keep i (by simpa using hi) hno]
      exact World.putObj_heap_other e
  · have := hJ.fresh b blk c hb hc hr hs
    rcases this with h1 | h1
    · exact .inl (by simpa using h1)
    · exact .inr h1

def setPs : List Nat → List AV → List AV → List AV
  | p :: ps, a :: as, t => setPs ps as (t.set p a)
  | _, _, t => t
theorem setPs_VRs {ρ : Ren} : ∀ (ps : List Nat) (as : List AV) (vs : List Value) (t : List AV) (tv : Array Value), VRs ρ as vs → VRs ρ t tv.toList → VRs ρ (setPs ps as t) ((ps.zip vs).foldl (fun (t : Array Value) (p : Nat × Value) => t.setIfInBounds p.1 p.2) tv).toList
  | [], as, vs, t, tv, _, ht => by simpa [setPs] using ht
  | p :: ps, [], [], t, tv, _, ht => by simpa [setPs] using ht
  | p :: ps, a :: as, v :: vs, t, tv, h, ht => by
    simp only [VRs] at h
    simp only [setPs, List.zip_cons_cons, List.foldl_cons]
    refine setPs_VRs ps as vs _ _ h.2 ?_
    simp only [Array.toList_setIfInBounds]
    exact ht.set p h.1
  | p :: ps, [], _ :: _, _, _, h, _ => by simp [VRs] at h
  | p :: ps, _ :: _, [], _, _, h, _ => by simp [VRs] at h

/-- One call of yield: the assignments to the loop's variables, and the body, in the caller's frame. -/
def roundS {P : Program} (env : Env P) (fuel : Nat) (Lb : Loops P env.Y) (yi : Yi) {β : Type} (H : Nat → Ent) (new : Nat) (args : List AV) (K : Eff → Option β) : Option β :=
  let R := reachF H 1000 0 (blksL (yi.t ++ args) [])
  let hp := partHeap allRw H new R
  match okL new (yi.t ++ args) && (okEnts new hp && decide (args.length = yi.ps.size)) with
  | true => codeK P env new fuel [] [] (.code yi.asg) (setPs yi.ps.toList args yi.t) hp fun e t h => match e with
    | .normal => codeK P env h.length fuel Lb [] (.code yi.body) t h fun e t' h' => match e with
      | .normal => K (outE hp h' R (reachF h'.get 1000 0 R) (.val (.bool true)))
      | _ => none
    | _ => none
  | false => none

theorem okL_append {n : Nat} : ∀ (a b : List AV), okL n (a ++ b) = (okL n a && okL n b)
  | [], b => by simp [okL]
  | x :: a, b => by simp [okL, okL_append a b, Bool.and_assoc]

def roundY {P : Program} (hm : P.follows .mixedOrders = true) (env : Env P) (hy : ∀ Γ, env.Y Γ) (fuel : Nat) (Lb : Loops P env.Y) (yi : Yi) (hL : Lb.fit yi.body) : YSumm P where
  Y := yi.ok
  stable := yi.stable
  S := fun H new args K => roundS env fuel Lb yi H new args K
  ok := by
    intro β H new args K r hs
    unfold roundS at hs
    simp only at hs
    split at hs
    case h_2 => cases hs
    rename_i hok
    simp only [Bool.and_eq_true, decide_eq_true_eq, okL_append] at hok
    obtain ⟨⟨hokt, hoka⟩, hents, hsz⟩ := hok
    generalize hR : reachF H 1000 0 (blksL (yi.t ++ args) []) = R at *
    have hlen : (partHeap allRw H new R).length = new := by simp [partHeap]
    obtain ⟨e, t1, h1, hk, hn1, hg1⟩ := codeK_ok hm fuel [] [] (.code yi.asg) _ _ _ yi.asg Loops.fit_nil (.inl rfl) (by rw [hlen]; exact Nat.le_refl _) hs
    have hg1 : Runs P env.Y new yi.asg (setPs yi.ps.toList args yi.t) (partHeap allRw H new R) e t1 h1 := hg1
    split at hk
    case h_2 => cases hk
    obtain ⟨e2, t2, h2, hk2, hn2, hg2⟩ := codeK_ok hm fuel Lb [] (.code yi.body) _ _ _ yi.body hL (.inr rfl) (Nat.le_refl _) hk
    have hg2 : Runs P env.Y h1.length yi.body t1 h1 e2 t2 h2 := hg2
    split at hk2
    case h_2 => cases hk2
    refine ⟨_, hk2, fun Γ hY ρ h w cargs hI hV hH hn hfree => ?_⟩
    have hH : ∀ b ∈ R, h.get b = H b := hH
    have hfree : ∀ x, new ≤ x → x < new + (h2.length - (partHeap allRw H new R).length) → h.get x = .free := hfree
    rw [hlen] at hfree
    obtain ⟨fn, tmps, D, hl, ht, hb⟩ := Yi.at_ (yi := yi) hY hI
    obtain ⟨hsim, hout⟩ := out_of_inv (wr := allRw) (H := H) (new := new) (R := R) (Z := reachF h2.get 1000 0 R) (v := .val (.bool true)) (h' := h2) hents (by omega) hI hH hn hfree
    have hlt : ρ.base.drawn < w.heap.size := (Array.getElem?_eq_some_iff.1 hl).1
    have hs : cargs.size = yi.ps.size := by have := hV.length; simp at this; omega
    refine ⟨fn, _, yi.asg, yi.body, run_yield hl (by simpa [Yi.rec_] using hs), ?_⟩
    refine roundIn_of_wpIn trivial ?_
    let Γa : Ctx := ⟨new, ρ.below new, partHeap allRw H new R, w⟩
    have hIa : Inv Γa (ρ.below new) (partHeap allRw H new R) w := by
      have hI0 : Inv ⟨(partHeap allRw H new R).length, ρ.below new, partHeap allRw H new R, w⟩ (ρ.below new) (partHeap allRw H new R) w := by
        refine ⟨hsim, fun _ _ => rfl, rfl, rfl, rfl, rfl, Nat.le_refl _, fun _ _ _ => rfl, fun b blk d hb hd hrw hs => ?_⟩
        refine .inr ⟨b, blk, d, ?_, hb, hrw, hd, hs, rfl⟩
        rcases Nat.lt_or_ge b (partHeap allRw H new R).length with h' | h'
        · exact h'
        · simp [Heap.get, List.getD_eq_getElem?_getD, List.getElem?_eq_none h'] at hb
      rw [hlen] at hI0; exact hI0
    have hVa : VRs (ρ.below new) (setPs yi.ps.toList args yi.t) ((yi.ps.zip cargs).foldl (fun (t : Array Value) (p : Nat × Value) => t.setIfInBounds p.1 p.2) tmps).toList := by
      rw [← Array.foldl_toList, Array.toList_zip]
      exact setPs_VRs _ _ _ _ _ (VRs.below _ _ hoka hV) (VRs.below _ _ hokt ht)
    have hfr : ∀ (W : World), W.heap[ρ.base.drawn]? = some (.loop (yi.rec_ fn tmps D .ready)) → FrOK (some ρ.base.drawn) W := fun W hW l hl => by
      injection hl with hl; subst hl; exact ⟨_, hW⟩
    refine wpIn_mono (hg1.2 Γa rfl (hy _) (some ρ.base.drawn) (ρ.below new) w _ hIa hVa ⟨hfr w hl, fun _ _ => rfl, trivial⟩) fun ea aa wa hp => ?_
    obtain ⟨rfl, ρ1, g1, g2, g3⟩ := hp
    have hla : wa.heap[ρ.base.drawn]? = some (.loop (yi.rec_ fn tmps D .ready)) := Inv.quiet hsim g1 _ _ hl (by simp)
    have hlta : ρ.base.drawn < wa.heap.size := (Array.getElem?_eq_some_iff.1 hla).1
    have hb1 : ρ1.base.heap.size ≤ ρ.base.drawn := by rw [g1.sameBase]; exact hb
    refine ⟨_, run_beginRound hla rfl, ?_⟩
    have hbusy : (wa.putObj ρ.base.drawn (.loop { yi.rec_ fn tmps D .ready with state := .busy })).heap[ρ.base.drawn]? = some (.loop (yi.rec_ fn tmps D .busy)) := World.putObj_heap_same hlta
    have hIb : Inv ⟨h1.length, ρ1, h1, wa.putObj ρ.base.drawn (.loop { yi.rec_ fn tmps D .ready with state := .busy })⟩ ρ1 h1 (wa.putObj ρ.base.drawn (.loop { yi.rec_ fn tmps D .ready with state := .busy })) := by
      refine ⟨g1.sim.putObj hla (by simp) (by simp) hb1, fun _ _ => rfl, rfl, rfl, rfl, rfl, Nat.le_refl _, fun _ _ _ => rfl, fun b blk d hb hd hrw hs => ?_⟩
      refine .inr ⟨b, blk, d, ?_, hb, hrw, hd, hs, rfl⟩
      rcases Nat.lt_or_ge b h1.length with h' | h'
      · exact h'
      · simp [Heap.get, List.getD_eq_getElem?_getD, List.getElem?_eq_none h'] at hb
    have hda : aa.defers = [] := g3.2.1 _ rfl
    refine wpIn_mono (hg2.2 ⟨h1.length, ρ1, h1, wa.putObj ρ.base.drawn (.loop { yi.rec_ fn tmps D .ready with state := .busy })⟩ rfl (hy _) (some ρ.base.drawn) ρ1 _ aa hIb g2 ⟨fun l hl => by (injection hl with hl; subst hl; exact ⟨_, hbusy⟩), fun _ _ => hda, by rw [hda]; trivial⟩) fun eb ab wb hp => ?_
    obtain ⟨rfl, ρ3, q1, q2, q3⟩ := hp
    have hlb : wb.heap[ρ.base.drawn]? = some (.loop (yi.rec_ fn tmps D .busy)) := Inv.quiet hIb.sim q1 _ _ hbusy (by simp)
    refine ⟨_, _, run_endRound none hlb, ?_⟩
    have hfin := g1.round hn1 hla (by simp) (by simp) hb1 q1
    obtain ⟨ρ4, k1, k2, k3⟩ := hout ρ3 _ hfin
    exact ⟨ρ4, .bool true, rfl, k1, by simp [outE, VR], k3⟩

/-! ### the statement -/
theorem Inv.allocObj {Γ : Ctx} {ρ : Ren} {h : Heap} {w : World} (hI : Inv Γ ρ h w) {o : Obj} (ho : ∀ cs e q, o ≠ .cells cs e q) : Inv Γ ρ h (w.alloc o) := by
  have hsz : (w.alloc o).heap.size = w.heap.size + 1 := by simp
  have hold : ∀ i, i < w.heap.size → (w.alloc o).heap[i]? = w.heap[i]? := fun i hi => by
    show (w.heap.push o)[i]? = _
    rw [Array.getElem?_push, if_neg (by omega)]
  refine hI.other (by omega) (fun a => ?_) (fun i cs e q hi => ?_) (fun i hi => hold i ?_) rfl rfl rfl
  · unfold World.cell?
    by_cases ha : a.block < w.heap.size
    · rw [hold _ ha]
    · by_cases h2 : a.block = w.heap.size
      · rw [h2, World.alloc_heap_new, Array.getElem?_eq_none (Nat.le_refl _)]
        cases o with
        | cells cs e q => exact absurd rfl (ho cs e q)
        | _ => rfl
      · rw [Array.getElem?_eq_none (by omega), Array.getElem?_eq_none (by omega)]
  · rw [hold i (Array.getElem?_eq_some_iff.1 hi).1]; exact hi
  · rcases hi with hi | hi
    · have := hI.sim.baseLe; omega
    · have := hI.size; omega
theorem quiet_alloc (w : World) (o : Obj) : Quiet w (w.alloc o) := fun k o' hk _ => by
  have hlt := (Array.getElem?_eq_some_iff.1 hk).1
  show (w.heap.push o)[k]? = _
  rw [Array.getElem?_push, if_neg (by omega)]; exact hk
theorem quiet_putObj {w : World} {l : Nat} {o' : Obj} {k : Nat} {x : Obj} (hk : w.heap[k]? = some x) (hne : k ≠ l) : (w.putObj l o').heap[k]? = some x := by
  rw [World.putObj_heap_other hne]; exact hk

/-- Where the iterator's code runs. -/
def rangeEnv {P : Program} (hm : P.follows .mixedOrders = true) (env : Env P) (hy : ∀ Γ, env.Y Γ) (fuel : Nat) (Lb : Loops P env.Y) (yi : Yi) (hL : Lb.fit yi.body) (lI : List (Summ P)) : Env P := ⟨lI, some (roundY hm env hy fuel Lb yi hL)⟩

/-- A range over a function, by the iterator's own code. -/
def rangeSumm {P : Program} (hm : P.follows .mixedOrders = true) (env : Env P) (hy : ∀ Γ, env.Y Γ) (fuel : Nat) (Lb : Loops P env.Y) (g : Operand) (ps : Array Tmp) (asg body : Code) (hLb : Lb.fit body)
    (lI : List (Summ P)) (fuelI : Nat) (Lit : (yi : Yi) → Loops P yi.ok) (gf : FuncId) (fn : Func) (c : Code) (hf : P.funcs[gf]? = some fn) (hb : fn.body = some c) (hname : (fn.name == "runtime.NumGoroutine") = false) (hres : fn.results = #[]) (hLit : ∀ yi, (Lit yi).fit c) : LSumm P env.Y where
  c := .rangeFunc g ps asg body
  S := fun {β} n0 t h K => match evalE t g with
  | .fn (.func f) [] cs =>
    if f = gf then
      (match okL h.length t && (noYL t && (noYE h && noYL cs)) with
      | true =>
        codeK P (rangeEnv hm env hy fuel Lb ⟨t, ps, asg, body⟩ hLb lI) h.length fuelI (Lit ⟨t, ps, asg, body⟩) [] (.code c) (.fn (.yield 0) [] [] :: cs ++ List.replicate (fn.ntmps - (cs.length + 1)) (.val undef)) h fun e t' h' => match okExit e && noYE h' with
          | true => K .normal t h'
          | false => none
      | false => none)
    else none
  | _ => none
  ok := by
    intro β n0 t h K r hn hs
    split at hs
    case h_2 => cases hs
    rename_i f cs hg
    split at hs
    case isFalse => cases hs
    rename_i hff
    subst hff
    split at hs
    case h_2 => cases hs
    rename_i hok
    simp only [Bool.and_eq_true] at hok
    obtain ⟨hokt, hnt, hnh, hncs⟩ := hok
    obtain ⟨e, t1, h1, hk, hn1, hgood⟩ := codeK_ok hm (env := rangeEnv hm env hy fuel Lb ⟨t, ps, asg, body⟩ hLb lI) fuelI (Lit ⟨t, ps, asg, body⟩) [] (.code c) _ _ _ c (hLit _) (.inr rfl) (Nat.le_refl _) hs
    split at hk
    case h_2 => cases hk
    rename_i hex
    simp only [Bool.and_eq_true] at hex
    obtain ⟨hex, hnh1⟩ := hex
    refine ⟨_, t, h1, hk, by omega, fun Γ hΓ hY fr ρ w a hI hV hd => ?_⟩
    refine wpIn_rangeFunc fun fn0 _ => ?_
    have hgv := VR_evalE hV g
    rw [hg] at hgv
    simp only [VR] at hgv
    obtain ⟨fs, cs', hgv, hfs, hcs⟩ := hgv
    have hfs0 : fs = #[] := by
      have := hfs.length
      exact Array.eq_empty_of_size_eq_zero (by simpa using this.symm)
    subst hfs0
    -- the record is laid
    obtain ⟨l, mark, w1, hent, hI1, hquiet, hrec, hmark, hbl⟩ : ∃ l mark w1, (Instr.enterLoop fn0 a.tmps ps asg body (frF fr).round).run P w = .ok (l, mark) w1 ∧ Inv Γ ρ h w1 ∧ Quiet w w1 ∧
        (∃ D, w1.heap[l]? = some (.loop ((Yi.mk t ps asg body).rec_ fn0 a.tmps D .ready))) ∧ (∀ w2, Quiet w1 w2 → ∀ w3, (∀ k x, k ≠ l → w2.heap[k]? = some x → w3.heap[k]? = some x) → Marks Γ fr (mark ++ a.defers) w3) ∧ (ρ.base.heap.size ≤ l ∧ Γ.w0.heap.size ≤ l) := by
      have hbase := hI.sim.baseLe
      have hsize := hI.size
      cases fr with
      | none =>
        have e1 : ((w.alloc (.deferred (some []))).heap.size) = w.heap.size + 1 := by simp
        refine ⟨w.heap.size + 1, [{ target := .collected w.heap.size, args := #[] }], _, run_enterLoop_outer _ _ _ _ _, ?_, ?_, ⟨w.heap.size, ?_⟩, ?_, by omega⟩
        · exact (hI.allocObj (by simp)).allocObj (by simp)
        · exact fun k o hk ho => quiet_alloc _ _ k o (quiet_alloc _ _ k o hk ho) ho
        · have := World.alloc_heap_new (w.alloc (.deferred (some []))) (.loop ((Yi.mk t ps asg body).rec_ fn0 a.tmps w.heap.size .ready))
          rw [e1] at this; exact this
        · intro w2 hq w3 hk3
          refine ⟨(fun l hl => by cases hl), (fun l hl => by cases hl), ?_⟩
          have hmk : ∀ (ds : List Deferred), MarksL Γ ds w → MarksL Γ ds w3 ∧ ∀ d' ∈ ds, d' ≠ ({ target := .collected w.heap.size, args := #[] } : Deferred) := by
            intro ds
            induction ds with
            | nil => exact fun _ => ⟨trivial, fun _ h => by cases h⟩
            | cons d ds ih =>
              intro hm
              obtain ⟨⟨D', e1', e2, e3, e4⟩, e5⟩ := hm
              have hD : D' < w.heap.size := (Array.getElem?_eq_some_iff.1 e3).1
              obtain ⟨i1, i2⟩ := ih e5
              refine ⟨⟨⟨D', e1', e2, hk3 D' _ (by omega) (hq _ _ (quiet_alloc _ _ _ _ (quiet_alloc _ _ _ _ e3 (by simp)) (by simp)) (by simp)), e4⟩, i1⟩, fun d' hd' => ?_⟩
              rcases List.mem_cons.1 hd' with rfl | hd'
              · rw [e1']; intro hh; injection hh with hh; injection hh with hh; omega
              · exact i2 d' hd'
          obtain ⟨m1, m2⟩ := hmk a.defers hd.2.2
          refine ⟨⟨w.heap.size, rfl, ⟨hsize, by have := hI.sameBase; rw [← this]; exact hbase⟩, hk3 _ _ (by omega) (hq _ _ ?_ (by simp)), m2⟩, m1⟩
          exact quiet_alloc _ _ _ _ (World.alloc_heap_new _ _) (by simp)
      | some l0 =>
        obtain ⟨r0, hr0⟩ := hd.1 l0 rfl
        refine ⟨w.heap.size, [], _, run_enterLoop_inner hr0 _ _ _ _ _, hI.allocObj (by simp), quiet_alloc _ _, ⟨r0.defers, World.alloc_heap_new _ _⟩, ?_, by omega⟩
        intro w2 hq w3 hk3
        have hlt0 : l0 < w.heap.size := (Array.getElem?_eq_some_iff.1 hr0).1
        refine ⟨fun l hl => ?_, fun l hl => ?_, ?_⟩
        · injection hl with hl; subst hl
          exact ⟨r0, hk3 _ _ (by omega) (hq _ _ (quiet_alloc _ _ _ _ hr0 (by simp)) (by simp))⟩
        · exact hd.2.1 _ hl
        · have h0 := hd.2.1 _ rfl
          show MarksL Γ a.defers w3
          rw [h0]; trivial
    obtain ⟨D, hrec⟩ := hrec
    let ρ' : Ren := ⟨ρ.f, { ρ.base with drawn := l }⟩
    have hcall : ∀ as w', (callFunc f as).run P w' = .ok (.enter f as) w' := fun as w' => by
      simp only [callFunc, program, Sem.run_bind, Sem.run, Result.andThen, hf]
      simp only [hname, hb, Option.isNone_some, Bool.false_eq_true, if_false]
      rfl
    refine ⟨l, mark, w1, { target := .fn (.func f) cs', args := #[.func (.yield l) #[] #[]] }, w1, f, #[.func (.yield l) #[] #[]] ++ cs', w1, hent, ?_, fun _ _ => trivial, ?_, (fun h => by cases h), ?_⟩
    · simp only [resolve, hgv]
      simp [fnAt, Deferred.ofValue, Sem.run, pure, Act.eval]
    · simp [invoke, hcall]
    · have hS' : Sim ρ' h w1 := hI1.sim.noY (fun _ => rfl) rfl hnh
      have hYi : (Yi.mk t ps asg body).ok ⟨h.length, ρ', h, w1⟩ := ⟨hokt, fn0, a.tmps, D, hrec, VRs.noY (ρ := ρ) (ρ' := ρ') (fun _ => rfl) _ _ hnt hV, hS'.not_owned hrec (by simp), hbl.1⟩
      have hVi : VRs ρ' (.fn (.yield 0) [] [] :: cs ++ List.replicate (fn.ntmps - (cs.length + 1)) (.val undef)) ((#[Value.func (.yield l) #[] #[]] ++ cs') ++ Array.replicate (fn.ntmps - (#[Value.func (.yield l) #[] #[]] ++ cs').size) undef).toList := by
        have hlen := hcs.length
        have hsz : (#[Value.func (.yield l) #[] #[]] ++ cs').size = cs.length + 1 := by simp at hlen ⊢; omega
        rw [hsz]
        simp only [Array.toList_append, Array.toList_replicate]
        refine VRs.append ?_ (VRs.replicate (ρ := ρ') (a := .val undef) (v := undef) (by simp [VR]) _)
        simp only [List.singleton_append, VRs]
        exact ⟨by simp only [VR]; exact ⟨#[], #[], rfl, by simp [VRs], by simp [VRs]⟩, VRs.noY (ρ := ρ) (ρ' := ρ') (fun _ => rfl) _ _ hncs hcs⟩
      refine callsIn_frF (calls_of_runs hf hb hgood hex (Γ := ⟨h.length, ρ', h, w1⟩) rfl hYi (Inv.self hS') hVi fun ρ2 w2 a2 g2 g3 => ?_)
      refine ⟨.tuple #[], by simp [results, hres, Sem.run, pure], ?_⟩
      have hq2 : Quiet w1 w2 := Inv.quiet hS' g2
      have hl2 := hq2 _ _ hrec (by simp)
      refine ⟨none, _, run_endLoop hl2 (by simp [Yi.rec_]), ?_⟩
      have hbase2 : ρ2.base.heap = ρ.base.heap := by rw [g2.sameBase]
      have hJ : Inv ⟨h.length, ρ, h, w1⟩ ⟨ρ2.f, ρ.base⟩ h1 w2 :=
        ⟨g2.sim.noY (fun _ => rfl) hbase2.symm hnh1, g2.agree, rfl, g2.os, g2.tape, g2.output, g2.size, g2.keep, g2.fresh⟩
      have hfin : Inv Γ ⟨ρ2.f, ρ.base⟩ h1 w2 := hI1.trans (by omega) hJ
      refine ⟨rfl, ⟨ρ2.f, ρ.base⟩, hfin.putObj hl2 (by simp) (by simp) hbl.2 hbl.1, VRs.agree (ρ0 := ρ) (ρ := ⟨ρ2.f, ρ.base⟩) (n := h.length) (fun b hb => g2.agree b hb) rfl hokt hV, hmark w2 hq2 _ fun k x hne hk => quiet_putObj hk hne⟩

def rgG : Code → Operand
  | .rangeFunc g _ _ _ => g
  | _ => .const undef
def rgP : Code → Array Tmp
  | .rangeFunc _ ps _ _ => ps
  | _ => #[]
def rgA : Code → Code
  | .rangeFunc _ _ a _ => a
  | _ => .skip
def rgB : Code → Code
  | .rangeFunc _ _ _ b => b
  | _ => .skip

end Go.Ab
/-
  CORE 29: functions that only read, and hand out a function value that has captured one number (a box of its own).
-/
set_option linter.unusedVariables false
set_option linter.unusedSimpArgs false
namespace Go.Ab

def kEnt (k : IntKind) (n : Int) : Ent := .live { cells := .lit [.val (.int k n)], rw := true }
/-- Whatever the arguments: where the law tells a number, function g comes out, with a box of its own that holds it. -/
def ReadsK (P : Program) (f : FuncId) (ss : List Sh) (g : FuncId) (k : IntKind) (law : Sh.Ts ss → Option Int) : Prop :=
  ∀ x n, law x = some n → Does P f (Sh.args ss x 0) (Sh.entss ss x) (.fn (.func g) [] [.ptr (Sh.nes ss) 0]) (Sh.entss ss x ++ [kEnt k n])
def outBx {P : Program} (fn : Func) (n0 : Nat) (g : FuncId) (k : IntKind) (ex : Exit) (t : List AV) (h : Heap) : Option Int :=
  match okExit ex with
  | true => (match resA P t h fn.results.toList with
    | some [.fn (.func g') [] [.ptr b 0]] => if g' = g ∧ n0 ≤ b then (match h.get b with
      | .live { cells := .lit [.val (.int k' n)], rw := true, grow := none } => if k' = k then some n else none
      | _ => none) else none
    | _ => none)
  | false => none
def codeLawK (P : Program) (env : Env P) (fuel : Nat) (L : Loops P env.Y) (fn : Func) (c : Code) (ss : List Sh) (g : FuncId) (k : IntKind) (x : Sh.Ts ss) : Option Int :=
  codeK P env (Sh.nes ss) fuel L [] (.code c) (Sh.args ss x 0 ++ List.replicate (fn.ntmps - ss.length) (.val undef)) (Sh.entss ss x) fun ex t h => outBx (P := P) fn (Sh.nes ss) g k ex t h

theorem ReadsK.of_code {P : Program} (hm : P.follows .mixedOrders = true) {f : FuncId} {fn : Func} {c : Code} (hf : P.funcs[f]? = some fn) (hb : fn.body = some c) (hname : (fn.name == "runtime.NumGoroutine") = false)
    (env : Env P) (fuel : Nat) {L : Loops P env.Y} (hL : L.fit c) {ss : List Sh} {g : FuncId} {k : IntKind} (hy : ∀ Γ, env.Y Γ := by exact fun _ => True.intro) : ReadsK P f ss g k (codeLawK P env fuel L fn c ss g k) := by
  intro x n hxy ρ w cargs hsim hargs
  unfold codeLawK at hxy
  have hlen0 := entss_length ss x
  obtain ⟨ex, t1, h1, hk, hn1, hg⟩ := codeK_ok hm fuel L [] (.code c) _ _ _ c hL (.inr rfl) (by omega) hxy
  unfold outBx at hk
  split at hk
  case h_2 => cases hk
  rename_i hex
  have hcall : (callFunc f cargs).run P w = .ok (.enter f cargs) w := by
    simp only [callFunc, program, Sem.run_bind, Sem.run, Result.andThen, hf]
    simp only [hname, hb, Option.isNone_some, Bool.false_eq_true, if_false]
    rfl
  have hlen := hargs.length
  rw [args_length] at hlen
  have hro : ∀ b blk, Heap.get (Sh.entss ss x) b = .live blk → blk.rw = false := fun b blk hb => entss_norw hb
  have hI : Inv ⟨(Sh.entss ss x).length, ρ, Sh.entss ss x, w⟩ ρ (Sh.entss ss x) w :=
    ⟨hsim, fun _ _ => rfl, rfl, rfl, rfl, rfl, Nat.le_refl _, fun _ _ _ => rfl, fun b blk d hb hd hrw hs => by rw [hro b blk hb] at hrw; cases hrw⟩
  have hV : VRs ρ (Sh.args ss x 0 ++ List.replicate (fn.ntmps - ss.length) (.val undef)) ({ tmps := cargs ++ Array.replicate (fn.ntmps - cargs.size) undef, defers := [] } : Act).tmps.toList := by
    simp only [Array.toList_append, Array.toList_replicate]
    refine hargs.append ?_
    rw [hlen]
    simpa using VRs.replicate (ρ := ρ) (a := .val undef) (v := undef) (by simp [VR]) (fn.ntmps - cargs.size)
  split at hk
  case h_2 => cases hk
  rename_i g' b hvs
  split at hk
  case isFalse => cases hk
  rename_i hgb
  obtain ⟨rfl, hbn⟩ := hgb
  split at hk
  case h_2 => cases hk
  rename_i k' n' hget
  split at hk
  case isFalse => cases hk
  rename_i hkk
  subst hkk
  injection hk with hk
  subst hk
  unfold Invokes
  rw [hcall]
  simp only
  refine calls_of_runs hf hb hg hex hlen0 (hy _) hI hV fun ρ2 w2 a2 g2 g3 => ?_
  obtain ⟨us, cv, k1, k2, k3⟩ := run_results_list (P := P) g2 g3 hvs
  have hv : VR ρ2 (.fn (.func g') [] [.ptr b 0]) cv := k3 ρ2 _ k2
  obtain ⟨d, hd⟩ := g2.sim.some_ b _ hget
  have hS := settleF hsim hro g2 hget rfl (fun l hl => ⟨[.int k' n'], by injection hl with hl; exact hl.symm⟩) (fun _ _ => by simp) (fun _ => by simp) hd
  refine ⟨cv, k1, _, cv, rfl, ?_, hS⟩
  simp only [VR] at hv ⊢
  obtain ⟨fs, cs, h2, h3, h4⟩ := hv
  refine ⟨fs, cs, h2, h3.nil_any, ?_⟩
  have hl4 := h4.length
  match cs, hl4, h4 with
  | ⟨[u]⟩, _, h4 =>
    simp only [VRs, VR] at h4 ⊢
    obtain ⟨⟨cb, co, cc, e1, e2⟩, _⟩ := h4
    rw [hd] at e1
    exact ⟨⟨cb, co, cc, by rw [← hlen0]; simpa [Ren.put] using e1, e2⟩, trivial⟩
theorem ReadsK.to {P : Program} {f : FuncId} {ss : List Sh} {g : FuncId} {k : IntKind} {law law' : Sh.Ts ss → Option Int} (h : ReadsK P f ss g k law) (he : ∀ x, law x = law' x) : ReadsK P f ss g k law' := fun x y hxy => h x y (by rw [he]; exact hxy)

def readsKS {P : Program} {β : Type} (ss : List Sh) (g : FuncId) (k : IntKind) (law : Sh.Ts ss → Option Int) (H : Nat → Ent) (new : Nat) (args : List AV) (K : Eff → Option β) : Option β :=
  match viewArgs H ss args with
  | some (x, bs, c) => ifK c ((law x).bind fun n => K { rb := bs, wb := [(new, kEnt k n)], nw := 1, val := .fn (.func g) [] [.ptr new 0] })
  | none => none
def ReadsK.summ {P : Program} {f : FuncId} {ss : List Sh} {g : FuncId} {k : IntKind} {law : Sh.Ts ss → Option Int} (hr : ReadsK P f ss g k law) : Summ P where
  f := f
  S := fun H new args K => readsKS (P := P) ss g k law H new args K
  ok := by
    intro β H new args K r hs
    unfold readsKS at hs
    split at hs
    case h_2 => cases hs
    rename_i x bs c hv
    obtain ⟨hc, hs⟩ := ifK_some hs
    rw [Option.bind_eq_some_iff] at hs
    obtain ⟨n, hl, hs⟩ := hs
    refine ⟨_, hs, fun Γ ρ h w cargs hI hargs hH hn hfree => ?_⟩
    obtain ⟨ρg, _, h1, h2, _⟩ := sim_views hI.sim.baseLe hI.sim.old (viewArgs_ok (Q := fun _ => True) hI.sim ss args _ hargs x bs c hv hH (fun _ _ => trivial) hc)
    refine (hr x n hl ρg w cargs h2 h1).mono fun en w' ⟨ρg', cv, he, hvv, hJ⟩ => ?_
    obtain ⟨ρ', g1, g2, g3⟩ := after_pure hI (hg := Sh.entss ss x) (fun b blk hb => entss_norw hb) (es := [kEnt k n]) rfl hJ hn hfree
    refine ⟨ρ', cv, he, g1, ?_, g3⟩
    have q := g2 0 (by simp)
    simp only [Nat.add_zero, entss_length] at q
    simp only [VR] at hvv ⊢
    obtain ⟨fs, cs, h2, h3, h4⟩ := hvv
    refine ⟨fs, cs, h2, h3.nil_any, ?_⟩
    have hl4 := h4.length
    match cs, hl4, h4 with
    | ⟨[u]⟩, _, h4 =>
      simp only [VRs, VR] at h4 ⊢
      rw [q]; exact h4

end Go.Ab
