/- An engine that names no program: what code does to what memory shows, evaluated over abstract values and an abstract heap, and that it is so. -/
import Derived.Test.YtpdimjdecjhbcaaCoreb
import Derived.Laws.StructEq
import Derived.LoopN
import Derived.Scope
/-
  CORE 14: one operation, evaluated with what comes behind it: where it may go wrong or either way, the evaluation branches.
-/
set_option linter.unusedVariables false
set_option linter.unusedSimpArgs false
namespace Go.Ab

/-- The operation has this effect. -/
def EffOK (P : Program) (o : Oper) (E : Operand → AV) (H : Nat → Ent) (new : Nat) (e : Eff) : Prop :=
  ∀ (Γ : Ctx) (ρ : Ren) (h : Heap) (w : World) (a : Act), Inv Γ ρ h w → (∀ x ∈ o.op.operands, VR ρ (E x) (a.eval x)) → (∀ b ∈ e.rb, h.get b = H b) → Γ.n0 ≤ new → (∀ x, new ≤ x → x < new + e.nw → h.get x = .free) → LStep P Γ o ρ h w a e
/-- The call has this effect. -/
def CallOK (P : Program) (f : FuncId) (args : List AV) (H : Nat → Ent) (new : Nat) (e : Eff) : Prop :=
  ∀ (Γ : Ctx) (ρ : Ren) (h : Heap) (w : World) (cargs : Array Value), Inv Γ ρ h w → VRs ρ args cargs.toList → (∀ b ∈ e.rb, h.get b = H b) → Γ.n0 ≤ new → (∀ x, new ≤ x → x < new + e.nw → h.get x = .free) →
    Invokes P f cargs w fun en w' => ∃ ρ' cv, en = .returned cv ∧ ρ.le ρ' ∧ VR ρ' e.val cv ∧ Inv Γ ρ' (h.upds e.wb) w'

/-- What is known of a function that is called: by the caller's blocks and arguments, an effect, handed on. -/
structure Summ (P : Program) where
  f : FuncId
  S : {β : Type} → (Nat → Ent) → Nat → List AV → (Eff → Option β) → Option β
  ok : ∀ {β : Type} (H : Nat → Ent) (new : Nat) (args : List AV) (K : Eff → Option β) (r : β), S H new args K = some r → ∃ e, K e = some r ∧ CallOK P f args H new e
abbrev Env (P : Program) := List (Summ P)
def Env.find {P : Program} : Env P → FuncId → Option (Summ P)
  | [], _ => none
  | s :: l, f => if s.f = f then some s else Env.find l f
theorem Env.find_f {P : Program} : ∀ (l : Env P) (f : FuncId) (s : Summ P), l.find f = some s → s.f = f
  | [], f, s, h => by simp [Env.find] at h
  | x :: l, f, s, h => by
    simp only [Env.find] at h
    split at h
    · rename_i hf; injection h with h; subst h; exact hf
    · exact Env.find_f l f s h

/-- One of n places. -/
def selK {β : Type} (i : Int) : Nat → Nat → (Nat → Option β) → Option β
  | _, 0, _ => none
  | j, n + 1, K => bif decide (i = (j : Int)) then K j else selK i (j + 1) n K
theorem selK_some {β : Type} {i : Int} {K : Nat → Option β} {r : β} : ∀ (n j : Nat), selK i j n K = some r → ∃ k, j ≤ k ∧ k < j + n ∧ i = (k : Int) ∧ K k = some r
  | 0, j, h => by simp [selK] at h
  | n + 1, j, h => by
    simp only [selK] at h
    cases hd : decide (i = (j : Int)) with
    | true => rw [hd] at h; exact ⟨j, Nat.le_refl _, by omega, by simpa using hd, h⟩
    | false =>
      rw [hd] at h
      obtain ⟨k, h1, h2, h3, h4⟩ := selK_some n (j + 1) h
      exact ⟨k, by omega, by omega, h3, h4⟩
def isArr : Ent → Bool
  | .live blk => match blk.cells with
    | .arr _ _ => true
    | .arrs _ _ => true
    | _ => false
  | _ => false

def idxAddrK {β : Type} (P : Program) (t : TypeId) (x i : AV) (H : Nat → Ent) (K : Eff → Option β) : Option β :=
  match intOfA i with
  | none => none
  | some n => match x, P.underlying t with
    | .ptr b o, some (.array len el) => (match P.info? el with
      | none => none
      | some ie => match isArr (H b) with
        | true => ifK (decide (0 ≤ n) && decide (n < (len : Int))) (K { val := .elt b o n.toNat ie.size 0 })
        | false => selK n 0 len fun j => K { val := .ptr b (o + j * ie.size) })
    | .slc b o len c, some (.slice el) => (match P.info? el with
      | none => none
      | some ie => match isArr (H b) with
        | true => ifK (decide (0 ≤ n) && decide (n < (len : Int))) (K { val := .elt b o n.toNat ie.size 0 })
        | false => selK n 0 len fun j => K { val := .ptr b (o + j * ie.size) })
    | _, _ => none

theorem idxAddrK_ok {β : Type} {P : Program} {o : Oper} {t : TypeId} {x i : Operand} (hop : o.op = .indexAddr t x i) {E : Operand → AV} {H : Nat → Ent} {new : Nat} {K : Eff → Option β} {r : β} (h : idxAddrK P t (E x) (E i) H K = some r) : ∃ e, K e = some r ∧ EffOK P o E H new e := by
  unfold idxAddrK at h
  split at h
  · cases h
  rename_i n hn
  have fin : ∀ (e : Eff) (len : Nat), e.wb = [] → (0 ≤ n ∧ n < (len : Int)) → (∀ chk, coreIndexAddr P t (E x) (E i) chk = need chk (0 ≤ n ∧ n < (len : Int)) { val := (match (E x) with | .ptr b o => .ptr b (o + n.toNat * ((P.info? (match P.underlying t with | some (.array _ el) => el | some (.slice el) => el | _ => 0)).map (·.size)).getD 0) | .slc b o _ _ => .ptr b (o + n.toNat * ((P.info? (match P.underlying t with | some (.array _ el) => el | some (.slice el) => el | _ => 0)).map (·.size)).getD 0) | a => a) }) →
      (∀ ρ cv, VR ρ (match (E x) with | .ptr b o => .ptr b (o + n.toNat * ((P.info? (match P.underlying t with | some (.array _ el) => el | some (.slice el) => el | _ => 0)).map (·.size)).getD 0) | .slc b o _ _ => .ptr b (o + n.toNat * ((P.info? (match P.underlying t with | some (.array _ el) => el | some (.slice el) => el | _ => 0)).map (·.size)).getD 0) | a => a) cv → VR ρ e.val cv) → EffOK P o E H new e := by
    intro e len hw hb hc hv Γ ρ h w a hI hE _ _ _
    have hok := coreIndexAddr_ok (P := P) (t := t) hI (hE x (by simp [hop, Op.operands])) (hE i (by simp [hop, Op.operands])) (chk := some ⟨_, hb⟩) (by rw [hc (some ⟨_, hb⟩)]; rfl) (by
      intro q hq
      simp at hq; subst hq; rfl)
    refine lstep_of_ok ?_
    obtain ⟨ρ', nx, cv, w', h1, h2, h3, h4, h5⟩ := hok
    refine ⟨ρ', nx, cv, w', by simpa only [execOp, hop] using h1, h2, h3, hv ρ' cv h4, ?_⟩
    rw [hw]; exact h5
  split at h
  · rename_i b ofs len el hx hu
    split at h
    · cases h
    rename_i ie hie
    split at h
    · obtain ⟨hb, hk⟩ := ifK_some h
      simp only [Bool.and_eq_true, decide_eq_true_eq] at hb
      refine ⟨_, hk, fin _ len rfl hb (fun chk => ?_) fun ρ cv hv => ?_⟩
      · simp only [coreIndexAddr, hn, Option.bind_some, hx, hu, hie, Option.map_some, Option.getD_some]
      · simp only [hx, hu, hie, Option.map_some, Option.getD_some, VR] at hv
        simpa [VR] using hv
    · obtain ⟨k, h1, h2, h3, hk⟩ := selK_some _ _ h
      refine ⟨_, hk, fin _ len rfl (by omega) (fun chk => ?_) fun ρ cv hv => ?_⟩
      · simp only [coreIndexAddr, hn, Option.bind_some, hx, hu, hie, Option.map_some, Option.getD_some]
      · simp only [hx, hu, hie, Option.map_some, Option.getD_some] at hv
        rw [h3] at hv; simpa using hv
  · rename_i b ofs len c el hx hu
    split at h
    · cases h
    rename_i ie hie
    split at h
    · obtain ⟨hb, hk⟩ := ifK_some h
      simp only [Bool.and_eq_true, decide_eq_true_eq] at hb
      refine ⟨_, hk, fin _ len rfl hb (fun chk => ?_) fun ρ cv hv => ?_⟩
      · simp only [coreIndexAddr, hn, Option.bind_some, hx, hu, hie, Option.map_some, Option.getD_some]
      · simp only [hx, hu, hie, Option.map_some, Option.getD_some, VR] at hv
        simpa [VR] using hv
    · obtain ⟨k, h1, h2, h3, hk⟩ := selK_some _ _ h
      refine ⟨_, hk, fin _ len rfl (by omega) (fun chk => ?_) fun ρ cv hv => ?_⟩
      · simp only [coreIndexAddr, hn, Option.bind_some, hx, hu, hie, Option.map_some, Option.getD_some]
      · simp only [hx, hu, hie, Option.map_some, Option.getD_some] at hv
        rw [h3] at hv; simpa using hv
  · cases h

def idxK {β : Type} (P : Program) (t : TypeId) (x i : AV) (K : Eff → Option β) : Option β :=
  match intOfA i with
  | none => none
  | some n => match x, P.underlying t with
    | .agg cs, some (.array len el) => (match P.info? el with
      | none => none
      | some ie => selK n 0 len fun j => (match partA P el cs (j * ie.size) with
        | some r => K { val := r }
        | none => none))
    | .val (.string s), some .string => ifK (decide (0 ≤ n) && decide (n < (s.size : Int))) (K { val := .val (.int .u8 ((s.data.toList.getD n.toNat 0).toNat : Int)) })
    | _, _ => none
theorem idxK_ok {β : Type} {P : Program} {o : Oper} {t : TypeId} {x i : Operand} (hop : o.op = .index t x i) {E : Operand → AV} {H : Nat → Ent} {new : Nat} {K : Eff → Option β} {r : β} (h : idxK P t (E x) (E i) K = some r) : ∃ e, K e = some r ∧ EffOK P o E H new e := by
  unfold idxK at h
  split at h
  · cases h
  rename_i n hn
  have fin : ∀ (e : Eff) (p : Prop) [Decidable p] (pf : p), e.wb = [] → e.ob = [] → coreIndex P t (E x) (E i) (some ⟨p, pf⟩) = need (some ⟨p, pf⟩) p e → EffOK P o E H new e := by
    intro e p _ pf hw hob hc Γ ρ h w a hI hE _ _ _
    have hok := coreIndex_ok (P := P) (t := t) hI (hE x (by simp [hop, Op.operands])) (hE i (by simp [hop, Op.operands])) (chk := some ⟨p, pf⟩) (by rw [hc]; rfl) (by
      intro q hq
      simp [hob] at hq; subst hq; rfl)
    refine lstep_of_ok ?_
    obtain ⟨ρ', nx, cv, w', h1, h2, h3, h4, h5⟩ := hok
    exact ⟨ρ', nx, cv, w', by simpa only [execOp, hop] using h1, h2, h3, h4, h5⟩
  split at h
  · rename_i cs len el hx hu
    split at h
    · cases h
    rename_i ie hie
    obtain ⟨k, h1, h2, h3, hk⟩ := selK_some _ _ h
    split at hk
    case h_2 => cases hk
    rename_i v hv
    have hb : 0 ≤ n ∧ n < (len : Int) := by omega
    refine ⟨_, hk, fin _ _ hb rfl rfl ?_⟩
    have hkn : n.toNat = k := by omega
    simp only [coreIndex, hn, Option.bind_some, hx, hu, hie, hkn, hv]
  · rename_i s hx hu
    obtain ⟨hb, hk⟩ := ifK_some h
    simp only [Bool.and_eq_true, decide_eq_true_eq] at hb
    refine ⟨_, hk, fin _ _ hb rfl rfl ?_⟩
    simp only [coreIndex, hn, Option.bind_some, hx, hu]
  · cases h

/-! ### parts of a slice -/
def eltAt (w o i : Nat) : Option Nat :=
  if w = 0 then none else if w = 1 then some (o + i) else match o with
    | 0 => some i
    | o' + 1 => if (o' + 1) % w = 0 then some ((o' + 1) / w + i) else none
theorem eltAt_some {w o i k : Nat} (h : eltAt w o i = some k) : o + i * w = k * w ∧ 0 < w := by
  unfold eltAt at h
  split at h
  · cases h
  rename_i h1
  split at h
  · rename_i hw; injection h with h; subst h; subst hw; simp
  split at h
  · injection h with h; subst h; exact ⟨by simp, by omega⟩
  · split at h
    · rename_i h2 h3
      injection h with h; subst h
      refine ⟨?_, by omega⟩
      rw [Nat.add_mul, Nat.div_mul_cancel (Nat.dvd_of_mod_eq_zero h3)]
    · cases h

theorem flatl_get {s : Sh} (hf : s.flat = true) (hw : 0 < s.w) {l : List s.T} {k : Nat} {y : s.T} (hk : l[k]? = some y) {j : Nat} {v : Value} (hj : (s.enc y)[j]? = some v) : (s.flatl l)[k * s.w + j]? = some v := by
  have hjw : j < s.w := by
    have := enc_length s y hf
    rcases Nat.lt_or_ge j (s.enc y).length with h' | h'
    · omega
    · simp [List.getElem?_eq_none h'] at hj
  induction l generalizing k with
  | nil => simp at hk
  | cons z l ih =>
    have hz := enc_length s z hf
    simp only [Sh.flatl, List.flatMap_cons]
    cases k with
    | zero =>
      simp at hk; subst hk
      rw [List.getElem?_append_left (by omega)]; simpa using hj
    | succ k =>
      rw [List.getElem?_append_right (by rw [hz, Nat.add_mul]; omega), hz]
      have := ih (by simpa using hk)
      simp only [Sh.flatl] at this
      rw [show (k + 1) * s.w + j - s.w = k * s.w + j by rw [Nat.add_mul]; omega]
      exact this

def eltLoadK {β : Type} (P : Program) (t : TypeId) (b o i w f : Nat) (H : Nat → Ent) (new : Nat) (K : Eff → Option β) : Option β :=
  match H b with
  | .live blk => match blk.cells with
    | .arr s l => if s.flat = true ∧ s.w = w then (match eltAt w o i with
      | none => none
      | some k => (l[k]?).bind fun y => match partA P t ((s.enc y).map .val) f with
        | some a => K { rb := [b], val := a }
        | none => none) else none
    | .arrs s l => if s.flat = true ∧ s.w = 1 ∧ w = 1 ∧ f = 0 then (match P.underlying t with
      | some (.slice _) => (match eltAt 1 o i with
        | none => none
        | some k => (l[k]?).bind fun r => K { rb := [b], wb := [(new, .live { cells := .arr s r, rw := false })], nw := 1, val := .slc new 0 r.length .low })
      | _ => none) else none
    | _ => none
  | _ => none

theorem arr_lit {ρ : Ren} {w : World} {cb co : Nat} {s : Sh} {l : List s.T} (hf : s.flat = true) (hw : 0 < s.w) (hc : CellsAt ρ w cb co (.arr s l)) {k : Nat} {y : s.T} (hk : l[k]? = some y) : CellsAt ρ w cb (co + k * s.w) (.lit ((s.enc y).map .val)) := by
  intro j v hj
  simp only [List.getElem?_map, Option.map_eq_some_iff] at hj
  obtain ⟨u, h1, rfl⟩ := hj
  exact ⟨u, by have := hc _ _ (flatl_get hf hw hk h1); rw [Nat.add_assoc]; exact this, by simp [VR]⟩

/-- A row of long ago is given a number, as parts of one shape. -/
theorem Inv.addArr {Γ : Ctx} {ρ : Ren} {h : Heap} {w : World} (hI : Inv Γ ρ h w) {new : Nat} (hn : Γ.n0 ≤ new) (hfree : h.get new = .free) (s : Sh) (r : List s.T) (cb co : Nat) (hr : ∀ (j : Nat) (v : Value), (s.flatl r)[j]? = some v → ρ.base.cell? ⟨cb, co + j, none⟩ = some v) :
    ρ.le (ρ.put new (cb, co, 0)) ∧ Inv Γ (ρ.put new (cb, co, 0)) (h.upd new (.live { cells := .arr s r, rw := false })) w := by
  obtain ⟨h1, h2⟩ := hI.addRo hn hfree (s.flatl r) cb co hr
  refine ⟨h1, ?_⟩
  have sw : ∀ x blk, (h.upd new (.live { cells := .arr s r, rw := false })).get x = .live blk → ∃ blk', (h.upd new (.live { cells := .sym (s.flatl r), rw := false })).get x = .live blk' ∧ blk'.rw = blk.rw ∧ blk'.grow = blk.grow ∧ blk'.cells.len = blk.cells.len ∧ (∀ ρ w cb co, CellsAt ρ w cb co blk'.cells → CellsAt ρ w cb co blk.cells) := by
    intro x blk hx
    rw [Heap.get_upd] at hx ⊢
    by_cases hxn : x = new
    · rw [if_pos hxn] at hx ⊢
      injection hx with hx; subst hx
      exact ⟨_, rfl, rfl, rfl, rfl, fun ρ w cb co h => h⟩
    · rw [if_neg hxn] at hx ⊢
      exact ⟨blk, hx, rfl, rfl, rfl, fun _ _ _ _ h => h⟩
  have sol : ∀ (blk blk' : Blk) c, blk'.rw = blk.rw → blk'.cells.len = blk.cells.len → blk.solid c → blk'.solid c := fun blk blk' c e1 e2 hs => by
    unfold Blk.solid at *
    rw [e1, e2]; exact hs
  refine ⟨⟨fun x blk hx => ?_, fun x blk c hx hc => ?_, fun x blk c hx hc hs => ?_, fun x blk c hx hc hr hs => ?_, fun x y xb yb c d hx hy hne hc hd hr hs hs' => ?_, fun x hx => ?_, h2.sim.baseLe, h2.sim.old, fun x blk c hx hc hr hs => ?_⟩, h2.agree, h2.sameBase, h2.os, h2.tape, h2.output, h2.size, h2.keep, fun x blk c hx hc hr hs => ?_⟩
  · obtain ⟨blk', h3, _⟩ := sw x blk hx; exact h2.sim.some_ x blk' h3
  · obtain ⟨blk', h3, _, _, _, h4⟩ := sw x blk hx; exact h4 _ _ _ _ (h2.sim.cells x blk' c h3 hc)
  · obtain ⟨blk', h3, e1, _, e2, _⟩ := sw x blk hx; exact h2.sim.inside x blk' c h3 hc (sol _ _ _ e1 e2 hs)
  · obtain ⟨blk', h3, e1, e3, e2, _⟩ := sw x blk hx
    obtain ⟨k1, cs, el, k2, k3, k4⟩ := h2.sim.own x blk' c h3 hc (e1.trans hr) (sol _ _ _ e1 e2 hs)
    exact ⟨k1, cs, el, k2, by rw [← e2]; exact k3, by rw [← e3]; exact k4⟩
  · obtain ⟨xb', h3, e1, _, e2, _⟩ := sw x xb hx
    obtain ⟨yb', h3', e1', _, e2', _⟩ := sw y yb hy
    exact h2.sim.apart x y xb' yb' c d h3 h3' hne hc hd (e1.trans hr) (sol _ _ _ e1 e2 hs) (sol _ _ _ e1' e2' hs')
  · refine h2.sim.dom x ?_
    rw [Heap.get_upd] at hx ⊢
    split at hx
    · cases hx
    · rename_i hxn; rw [if_neg hxn]; exact hx
  · obtain ⟨blk', h3, e1, _, e2, _⟩ := sw x blk hx; exact h2.sim.above x blk' c h3 hc (e1.trans hr) (sol _ _ _ e1 e2 hs)
  · obtain ⟨blk', h3, e1, _, e2, _⟩ := sw x blk hx; exact h2.fresh x blk' c h3 hc (e1.trans hr) (sol _ _ _ e1 e2 hs)

theorem eltLoadK_ok {β : Type} {P : Program} {o : Oper} {t : TypeId} {x : Operand} (hop : o.op = .load t x) {E : Operand → AV} {b ofs i w f : Nat} (hx : E x = .elt b ofs i w f) {H : Nat → Ent} {new : Nat} {K : Eff → Option β} {r : β} (h : eltLoadK P t b ofs i w f H new K = some r) : ∃ e, K e = some r ∧ EffOK P o E H new e := by
  unfold eltLoadK at h
  split at h
  case h_2 => cases h
  rename_i blk hblk
  have hsure : ∀ (w : World) a r, (loadVar t a).run P w = .ok r w → (Instr.loadAt t (.pointer (some a))).run P w = .ok r w := fun w a r hr => by
    simp only [Instr.loadAt, Sem.run_bind, Instr.sureAddr, Result.andThen]
    exact hr
  split at h
  · rename_i s l hcells
    split at h
    case isFalse => cases h
    rename_i hs
    obtain ⟨hf, hw⟩ := hs
    split at h
    · cases h
    rename_i k hk
    rw [Option.bind_eq_some_iff] at h
    obtain ⟨y, hy, h⟩ := h
    split at h
    case h_2 => cases h
    rename_i a ha
    refine ⟨_, h, fun Γ ρ hp wd act hI hE hH hn hfree => lstep_of_ok ?_⟩
    have hv := hE x (by simp [hop, Op.operands])
    rw [hx] at hv
    simp only [VR] at hv
    obtain ⟨cb, co, cc, hρ, hv⟩ := hv
    have hb : hp.get b = .live blk := by rw [hH b (by simp)]; exact hblk
    have hca := hI.sim.cells b blk _ hb hρ
    rw [hcells] at hca
    obtain ⟨hk1, hk2⟩ := eltAt_some hk
    subst hw
    have hla := arr_lit hf hk2 hca hy
    obtain ⟨v, h1, h2⟩ := loadVar_lit (P := P) ha hla
    refine .pure hI v ?_ h2 rfl
    simp only [execOp, hop, hv]
    refine run_v (hsure wd _ v ?_)
    have e : co + (ofs + i * s.w + f) = co + k * s.w + f := by omega
    rw [e]; exact h1
  · rename_i s l hcells
    split at h
    case isFalse => cases h
    rename_i hs
    obtain ⟨hf, hw, hw1, hf0⟩ := hs
    subst hw1; subst hf0
    split at h
    case h_2 => cases h
    rename_i el hu
    split at h
    · cases h
    rename_i k hk
    obtain ⟨hk1, _⟩ := eltAt_some hk
    have hk1 : k = ofs + i := by omega
    subst hk1
    rw [Option.bind_eq_some_iff] at h
    obtain ⟨row, hy, h⟩ := h
    refine ⟨_, h, fun Γ ρ hp wd act hI hE hH hn hfree => lstep_of_ok ?_⟩
    have hv := hE x (by simp [hop, Op.operands])
    rw [hx] at hv
    simp only [VR] at hv
    obtain ⟨cb, co, cc, hρ, hv⟩ := hv
    have hb : hp.get b = .live blk := by rw [hH b (by simp)]; exact hblk
    have hca := hI.sim.cells b blk _ hb hρ
    rw [hcells] at hca
    obtain ⟨cv, h1, h2⟩ := hca _ row hy
    have hlen : (s.flatl row).length = row.length := by rw [flatl_length s hf, hw, Nat.mul_one]
    have hag : isAggD (.slice el) = false := rfl
    have hrun : (Instr.loadAt t (act.eval x)).run P wd = .ok cv wd := by
      rw [hv]
      refine hsure wd _ cv ?_
      have e : co + (ofs + i * 1 + 0) = co + (ofs + i) := by omega
      rw [e]
      simp only at h1
      simp only [loadVar, Sem.run_bind, run_isAgg hu, Result.andThen, hag, Bool.false_eq_true, if_false, run_load, h1]
    have hfr := hfree new (Nat.le_refl _) (by simp)
    have hexec : (execOp act.eval o).run P wd = .ok (.value cv) wd := by
      simp only [execOp, hop]
      exact run_v hrun
    rcases h2 with ⟨h3, a, h4⟩ | ⟨b', o', c', h3, h4, h5⟩
    · obtain ⟨k1, k2⟩ := hI.addArr hn hfr s row 0 0 (by rw [h3]; simp)
      refine ⟨_, _, cv, wd, hexec, .inl rfl, k1, ?_, k2⟩
      have : row.length = 0 := by rw [← hlen, h3]; rfl
      simp only [VR]; exact .inr ⟨this, a, h4⟩
    · obtain ⟨k1, k2⟩ := hI.addArr hn hfr s row b' o' h5
      refine ⟨_, _, cv, wd, hexec, .inl rfl, k1, ?_, k2⟩
      rw [hlen] at h3 h4
      simp only [VR]; exact .inl ⟨b', o', 0, c', by simp [Ren.put], h4, by rw [h3]; rfl⟩
  · cases h

/-! ### arithmetic that may not go -/
def binK {β : Type} (P : Program) (o : Oper) (E : Operand → AV) (op : BinOp) (x y : Operand) (K : Eff → Option β) (base : Option β) : Option β :=
  match op, E x, E y with
  | .quo, .val (.int k a), .val (.int k' b) => if k = k' then ifK (!decide (b = 0)) (K { val := .val (.int k (k.wrap (a.tdiv b))) }) else none
  | .rem, .val (.int k a), .val (.int k' b) => if k = k' then ifK (!decide (b = 0)) (K { val := .val (.int k (a.tmod b)) }) else none
  | .shl, .val (.int k a), .val (.int _ b) => ifK (decide (0 ≤ b)) (K { val := .val (.int k (k.wrap (a * 2 ^ min b.toNat k.bits))) })
  | .shr, .val (.int k a), .val (.int _ b) => ifK (decide (0 ≤ b)) (K { val := .val (.int k (a.fdiv (2 ^ min b.toNat k.bits))) })
  | _, _, _ => base

theorem binK_ok {β : Type} {P : Program} {o : Oper} {op : BinOp} {t yt : TypeId} {x y : Operand} (hop : o.op = .binOp op t x y yt) {E : Operand → AV} {H : Nat → Ent} {new : Nat} {K : Eff → Option β} {base : Option β} {r : β}
    (hbase : base = some r → ∃ e, K e = some r ∧ EffOK P o E H new e) (h : binK P o E op x y K base = some r) : ∃ e, K e = some r ∧ EffOK P o E H new e := by
  have fin : ∀ (e : Eff) (p : Pf), arith op (E x) (E y) (some p) = some { e with ob := e.ob } → (∀ q ∈ e.ob, q.holds) → ∀ e0 : Eff, e0.val = e.val → e0.wb = [] → EffOK P o E H new e0 := by
    intro e p hc hob e0 hv hw Γ ρ hp wd act hI hE _ _ _
    refine lstep_of_ok ?_
    obtain ⟨v, h1, h2, h3⟩ := arith_run (P := P) (t := t) hc hob (hE x (by simp [hop, Op.operands])) (hE y (by simp [hop, Op.operands])) wd x y
    refine .pure hI v ?_ (by rw [hv]; exact h2) hw
    simp only [execOp, hop]
    exact run_v h1
  unfold binK at h
  split at h
  · rename_i k a k' b hx hy
    split at h
    case isFalse => cases h
    rename_i hk; subst hk
    obtain ⟨hb, hK⟩ := ifK_some h
    have hb : b ≠ 0 := by simpa using hb
    refine ⟨_, hK, fin { val := .val (.int k (k.wrap (a.tdiv b))), ob := [.prop (b ≠ 0) (b ≠ 0)] } ⟨_, hb⟩ (by simp [arith, hx, hy]) (by simp [Ob.holds]) _ rfl rfl⟩
  · rename_i k a k' b hx hy
    split at h
    case isFalse => cases h
    rename_i hk; subst hk
    obtain ⟨hb, hK⟩ := ifK_some h
    have hb : b ≠ 0 := by simpa using hb
    refine ⟨_, hK, fin { val := .val (.int k (a.tmod b)), ob := [.prop (b ≠ 0) (b ≠ 0)] } ⟨_, hb⟩ (by simp [arith, hx, hy]) (by simp [Ob.holds]) _ rfl rfl⟩
  · rename_i k a k' b hx hy
    obtain ⟨hb, hK⟩ := ifK_some h
    have hb : 0 ≤ b := by simpa using hb
    refine ⟨_, hK, fin { val := .val (.int k (k.wrap (a * 2 ^ min b.toNat k.bits))), ob := [.prop (0 ≤ b) (0 ≤ b)] } ⟨_, hb⟩ (by simp [arith, hx, hy]) (by simp [Ob.holds]) _ rfl rfl⟩
  · rename_i k a k' b hx hy
    obtain ⟨hb, hK⟩ := ifK_some h
    have hb : 0 ≤ b := by simpa using hb
    refine ⟨_, hK, fin { val := .val (.int k (a.fdiv (2 ^ min b.toNat k.bits))), ob := [.prop (0 ≤ b) (0 ≤ b)] } ⟨_, hb⟩ (by simp [arith, hx, hy]) (by simp [Ob.holds]) _ rfl rfl⟩
  · exact hbase h

/-! ### parts of slices and strings -/
def optInt (E : Operand → AV) (d : Int) : Option Operand → Option Int
  | none => some d
  | some x => intOfA (E x)
def sliceK {β : Type} (P : Program) (t : TypeId) (E : Operand → AV) (x : Operand) (lo hi : Option Operand) (K : Eff → Option β) : Option β :=
  match E x, P.underlying t with
  | .slc b o n cp, some (.slice el) => (match P.info? el with
    | none => none
    | some ie => (match optInt E 0 lo, optInt E n hi with
      | some l, some h => ifK (decide (0 ≤ l) && (decide (l ≤ h) && decide (h ≤ (n : Int)))) (K { val := (match lo with
          | none => .slc b o h.toNat (match cp with
            | .unk => .unk
            | _ => .part)
          | some _ => .slc b (if ie.size = 1 then o + l.toNat else o + l.toNat * ie.size) (h - l).toNat .part) })
      | _, _ => none))
  | .val (.slice none 0 0), some (.slice el) => (match P.info? el with
    | none => none
    | some ie => (match optInt E 0 lo, optInt E 0 hi with
      | some l, some h => ifK (decide (l = 0) && decide (h = 0)) (K { val := .val (.slice none 0 0) })
      | _, _ => none))
  | .val (.string s), some .string => (match optInt E 0 lo, optInt E s.size hi with
    | some l, some h => ifK (decide (0 ≤ l) && (decide (l ≤ h) && decide (h ≤ (s.size : Int)))) (K { val := .val (.string (s.extract l.toNat h.toNat)) })
    | _, _ => none)
  | _, _ => none
theorem run_bounds {P : Program} {w : World} (isS : Bool) (n c : Nat) (l h : Int) (hn : n ≤ c) (h0 : 0 ≤ l) (h1 : l ≤ h) (h2 : h ≤ (n : Int)) (lo hi : Option Value) (hlo : (lo = none ∧ l = 0) ∨ ∃ k, lo = some (.int k l)) (hhi : (hi = none ∧ h = n) ∨ ∃ k, hi = some (.int k h)) :
    (Instr.sliceBounds isS n c lo hi none).run P w = .ok (l.toNat, h.toNat, c) w := by
  have b1 : ∀ (y : Nat) (code : BoundsCode) (k : IntKind) (i : Int), 0 ≤ i → i ≤ (y : Int) → (Instr.sliceBound (.int k i) y code).run P w = .ok i.toNat w := fun y code k i g1 g2 => by
    unfold Instr.sliceBound
    simp only [Sem.run_bind, asIntOf]
    show (if 0 ≤ i ∧ i ≤ (y : Int) then pure i.toNat else boundsPanic k i y code : Sem Nat).run P w = _
    rw [if_pos ⟨g1, g2⟩]; rfl
  have ht : ((n : Int)).toNat = n := by simp
  rcases hlo with ⟨rfl, rfl⟩ | ⟨k, rfl⟩ <;> rcases hhi with ⟨rfl, rfl⟩ | ⟨k', rfl⟩
  · simp only [Instr.sliceBounds, Sem.run_bind, Sem.run_pure, Result.andThen, ht]
    rfl
  · simp only [Instr.sliceBounds, Sem.run_bind, Sem.run_pure, Result.andThen, b1 c _ k' h (by omega) (by omega)]
    rfl
  · simp only [Instr.sliceBounds, Sem.run_bind, Sem.run_pure, Result.andThen, b1 n _ k l h0 h1, ht]
  · simp only [Instr.sliceBounds, Sem.run_bind, Sem.run_pure, Result.andThen, b1 c _ k' h (by omega) (by omega), b1 h.toNat _ k l h0 (by omega)]
theorem optInt_ok {ρ : Ren} {E : Operand → AV} {d l : Int} {x : Option Operand} {C : Operand → Value} (h : optInt E d x = some l) (hv : ∀ y, x = some y → VR ρ (E y) (C y)) : (x.map C = none ∧ l = d) ∨ ∃ k, x.map C = some (.int k l) := by
  cases x with
  | none => simp only [optInt] at h; injection h with h; exact .inl ⟨rfl, h.symm⟩
  | some y =>
    simp only [optInt] at h
    obtain ⟨k, hk⟩ := intOfA_some h (hv y rfl)
    exact .inr ⟨k, by simp [hk]⟩

theorem sliceK_ok {β : Type} {P : Program} {o : Oper} {t : TypeId} {x : Operand} {lo hi : Option Operand} (hop : o.op = .slice t x lo hi none) {E : Operand → AV} {H : Nat → Ent} {new : Nat} {K : Eff → Option β} {r : β} (h : sliceK P t E x lo hi K = some r) : ∃ e, K e = some r ∧ EffOK P o E H new e := by
  have ops : ∀ (a : Act) (ρ : Ren), (∀ z ∈ o.op.operands, VR ρ (E z) (a.eval z)) → VR ρ (E x) (a.eval x) ∧ (∀ y, lo = some y → VR ρ (E y) (a.eval y)) ∧ ∀ y, hi = some y → VR ρ (E y) (a.eval y) := fun a ρ hE => by
    rw [hop] at hE
    refine ⟨hE x (by simp [Op.operands]), fun y hy => hE y (by subst hy; simp [Op.operands]), fun y hy => hE y (by subst hy; simp [Op.operands])⟩
  unfold sliceK at h
  split at h
  · rename_i b ofs n cp el hx hu
    split at h
    · cases h
    rename_i ie hie
    split at h
    case h_2 => cases h
    rename_i l hh hl hh2
    obtain ⟨hb, hK⟩ := ifK_some h
    simp only [Bool.and_eq_true, decide_eq_true_eq] at hb
    obtain ⟨h0, h1, h2⟩ := hb
    refine ⟨_, hK, fun Γ ρ hp w a hI hE hH hn hfree => lstep_of_ok ?_⟩
    obtain ⟨hvx, hvl, hvh⟩ := ops a ρ hE
    rw [hx] at hvx
    have bnd : ∀ (ad : Option Addr) (c : Nat), n ≤ c → a.eval x = .slice ad n c → (execOp a.eval o).run P w = .ok (.value (.slice (if c = l.toNat then ad else ad.map (·.add (l.toNat * ie.size))) (hh.toNat - l.toNat) (c - l.toNat))) w := fun ad c hc hax => by
      have hr := run_bounds (P := P) (w := w) true n c l hh hc h0 h1 h2 (lo.map a.eval) (hi.map a.eval) (optInt_ok hl hvl) (by
        rcases optInt_ok hh2 hvh with ⟨g1, g2⟩ | g
        · exact .inl ⟨g1, g2⟩
        · exact .inr g)
      simp only [execOp, hop, hax, Option.map_none]
      refine run_v ?_
      simp only [Instr.sliceAt, Instr.slice, Sem.run_bind, run_underlying' hu, Result.andThen, hr, run_size hie, Sem.run_pure]
    have mul : (if ie.size = 1 then ofs + l.toNat else ofs + l.toNat * ie.size) = ofs + l.toNat * ie.size := by
      split
      · rename_i hs; rw [hs, Nat.mul_one]
      · rfl
    have gen : ∀ (ad : Option Addr) (c : Nat), n ≤ c → a.eval x = .slice ad n c → (n = 0 ∧ c = 0 → True) → ∀ v : AV, VR ρ v (.slice (if c = l.toNat then ad else ad.map (·.add (l.toNat * ie.size))) (hh.toNat - l.toNat) (c - l.toNat)) → OpOK P Γ ρ hp w (execOp a.eval o) { val := v } := fun ad c hc hax _ v hv => .pure hI _ (bnd ad c hc hax) hv rfl
    have nl : lo = none → l = 0 := fun e => by subst e; simp only [optInt] at hl; injection hl with hl; exact hl.symm
    cases hlo : lo with
    | none =>
      have hl0 := nl hlo
      subst hl0
      simp only [Int.toNat_zero, Nat.zero_mul, Nat.sub_zero] at *
      have same : ∀ (ad : Option Addr) (c : Nat), (if c = 0 then ad else ad.map (·.add 0)) = ad := fun ad c => by
        split
        · rfl
        · cases ad <;> simp [Addr.add]
      cases cp with
      | unk =>
        simp only [VR] at hvx
        rcases hvx with ⟨cb, co, cc, c', k1, k2, k3, k4⟩ | ⟨k1, ad, k4⟩
        · refine gen _ _ k2 k4 (fun _ => trivial) _ ?_
          rw [same]; simp only [VR]
          exact .inl ⟨cb, co, cc, c', k1, by omega, k3, rfl⟩
        · subst k1
          have : hh.toNat = 0 := by omega
          refine gen _ _ (Nat.le_refl _) k4 (fun _ => trivial) _ ?_
          rw [same, this]; simp only [VR]
          exact .inr ⟨trivial, ad, rfl⟩
      | _ =>
        rcases hvx.slc_cases with ⟨cb, co, cc, c', k1, k2, k4⟩ | ⟨k1, ad, k4⟩
        · refine gen _ _ k2 k4 (fun _ => trivial) _ ?_
          rw [same]; simp only [VR]
          exact .inl ⟨cb, co, cc, c', k1, by omega, rfl⟩
        · subst k1
          have : hh.toNat = 0 := by omega
          refine gen _ _ (Nat.le_refl _) k4 (fun _ => trivial) _ ?_
          rw [same, this]; simp only [VR]
          exact .inr ⟨trivial, ad, rfl⟩
    | some y =>
      simp only
      have e1 : (hh - l).toNat = hh.toNat - l.toNat := by omega
      rcases hvx.slc_cases with ⟨cb, co, cc, c', k1, k2, k4⟩ | ⟨k1, ad, k4⟩
      · refine gen _ _ k2 k4 (fun _ => trivial) _ ?_
        rw [e1, mul]
        by_cases hc : c' = l.toNat
        · rw [if_pos hc]
          have z1 : hh.toNat - l.toNat = 0 := by omega
          have z2 : c' - l.toNat = 0 := by omega
          rw [z1, z2]; simp only [VR]
          exact .inr ⟨trivial, _, rfl⟩
        · rw [if_neg hc]; simp only [VR]
          exact .inl ⟨cb, co, cc, c' - l.toNat, k1, by omega, by simp only [Option.map_some, add_lit]; rw [Nat.add_assoc]⟩
      · subst k1
        have z0 : l.toNat = 0 ∧ hh.toNat = 0 := by omega
        refine gen _ _ (Nat.le_refl _) k4 (fun _ => trivial) _ ?_
        rw [e1, z0.1, z0.2]; simp only [VR]
        exact .inr ⟨trivial, ad, by simp⟩
  · rename_i el hx hu
    split at h
    · cases h
    rename_i ie hie
    split at h
    case h_2 => cases h
    rename_i l hh hl hh2
    obtain ⟨hb, hK⟩ := ifK_some h
    simp only [Bool.and_eq_true, decide_eq_true_eq] at hb
    obtain ⟨h0, h1⟩ := hb
    refine ⟨_, hK, fun Γ ρ hp w a hI hE hH hn hfree => lstep_of_ok ?_⟩
    obtain ⟨hvx, hvl, hvh⟩ := ops a ρ hE
    rw [hx] at hvx
    simp only [VR] at hvx
    have hr := run_bounds (P := P) (w := w) true 0 0 l hh (Nat.le_refl _) (by omega) (by omega) (by omega) (lo.map a.eval) (hi.map a.eval) (optInt_ok hl hvl) (by
        rcases optInt_ok hh2 hvh with ⟨g1, g2⟩ | g
        · exact .inl ⟨g1, by simpa using g2⟩
        · exact .inr g)
    refine .pure hI (.slice none 0 0) ?_ (by simp [VR]) rfl
    simp only [execOp, hop, hvx, Option.map_none]
    refine run_v ?_
    simp only [Instr.sliceAt, Instr.slice, Sem.run_bind, run_underlying' hu, Result.andThen, hr, run_size hie, Sem.run_pure, h0, h1]
    simp
  · rename_i s hx hu
    split at h
    case h_2 => cases h
    rename_i l hh hl hh2
    obtain ⟨hb, hK⟩ := ifK_some h
    simp only [Bool.and_eq_true, decide_eq_true_eq] at hb
    obtain ⟨h0, h1, h2⟩ := hb
    refine ⟨_, hK, fun Γ ρ hp w a hI hE hH hn hfree => lstep_of_ok ?_⟩
    obtain ⟨hvx, hvl, hvh⟩ := ops a ρ hE
    rw [hx] at hvx
    simp only [VR] at hvx
    have hr := run_bounds (P := P) (w := w) false s.size s.size l hh (Nat.le_refl _) h0 h1 h2 (lo.map a.eval) (hi.map a.eval) (optInt_ok hl hvl) (by
        rcases optInt_ok hh2 hvh with ⟨g1, g2⟩ | g
        · exact .inl ⟨g1, g2⟩
        · exact .inr g)
    refine .pure hI (.string (s.extract l.toNat hh.toNat)) ?_ (by simp [VR]) rfl
    simp only [execOp, hop, hvx, Option.map_none]
    refine run_v ?_
    simp only [Instr.sliceAt, Instr.slice, Sem.run_bind, run_underlying' hu, Result.andThen, hr, Sem.run_pure, Option.isSome_none, Bool.false_eq_true, if_false]
  · cases h

/-! ### any operation -/
def baseK {β : Type} (P : Program) (o : Oper) (E : Operand → AV) (H : Nat → Ent) (new : Nat) (K : Eff → Option β) : Option β :=
  match coreBase P o E H new none none with
  | some e => match e.ob with
    | [] => K e
    | _ => none
  | none => none
theorem baseK_ok {β : Type} {P : Program} {o : Oper} {E : Operand → AV} {H : Nat → Ent} {new : Nat} {K : Eff → Option β} {r : β} (h : baseK P o E H new K = some r) : ∃ e, K e = some r ∧ EffOK P o E H new e := by
  unfold baseK at h
  split at h
  case h_2 => cases h
  rename_i e he
  split at h
  case h_2 => cases h
  rename_i hob
  exact ⟨e, h, fun Γ ρ hp wd act hI hE hH hn hfree => lstep_of_ok (coreBase_ok hI hE he (by rw [hob]; simp) hH hn hfree)⟩

def callK {β : Type} {P : Program} (env : Env P) (as : Array Operand) (fo : Operand) (E : Operand → AV) (H : Nat → Ent) (new : Nat) (K : Eff → Option β) : Option β :=
  match E fo with
  | .fn (.func f) first cap => match env.find f with
    | some s => s.S H new (first ++ as.toList.map E ++ cap) K
    | none => none
  | _ => none
theorem callK_ok {β : Type} {P : Program} {env : Env P} {o : Oper} {fo : Operand} {as : Array Operand} {ts : Array TypeId} (hop : o.op = .call { callee := .value fo, args := as, argTypes := ts }) {E : Operand → AV} {H : Nat → Ent} {new : Nat} {K : Eff → Option β} {r : β}
    (h : callK env as fo E H new K = some r) : ∃ e, K e = some r ∧ EffOK P o E H new e := by
  unfold callK at h
  split at h
  case h_2 => cases h
  rename_i f first cap hfo
  split at h
  case h_2 => cases h
  rename_i s hs
  obtain ⟨e, hK, hok⟩ := s.ok _ _ _ _ _ h
  have hsf := env.find_f f s hs
  refine ⟨e, hK, fun Γ ρ hp w a hI hE hH hn hfree => ?_⟩
  have hfoC := hE fo (by simp [hop, Op.operands, Call.operands])
  rw [hfo] at hfoC
  simp only [VR] at hfoC
  obtain ⟨fs, cs, hCf, hfs, hcs⟩ := hfoC
  have hall : VRs ρ (first ++ as.toList.map E ++ cap) (fs ++ as.map a.eval ++ cs).toList := by
    simp only [Array.toList_append, Array.toList_map]
    exact (hfs.append (VRs.map _ fun x hx => hE x (by simp [hop, Op.operands, Call.operands]; exact .inr (by simpa using hx)))).append hcs
  have hinv := hok Γ ρ hp w _ hI hall hH hn hfree
  rw [hsf] at hinv
  intro K Qc hK
  unfold Oper.wp
  rw [run_callOp hop hCf]
  unfold Invokes at hinv
  generalize hrun : (callFunc f (fs ++ as.map a.eval ++ cs)).run P w = r at hinv
  cases r with
  | halt x w' => exact hinv.elim
  | ok nx w' =>
    cases nx with
    | enter g gs =>
      simp only at hinv
      show Calls P g gs w' _
      refine hinv.mono fun e w'' hR => ?_
      obtain ⟨ρ', cv, rfl, h1, h2, h3⟩ := hR
      exact hK ρ' w'' cv h1 h2 h3
    | value v =>
      simp only at hinv
      obtain ⟨ρ', cv, hv0, h1, h2, h3⟩ := hinv
      injection hv0 with hv0; subst hv0
      exact hK ρ' w' v h1 h2 h3
    | _ => exact hinv.elim

/-- A value of a type that is no interface, as an interface's. -/
def ifaceK {β : Type} (P : Program) (t : TypeId) (v : AV) (K : Eff → Option β) : Option β :=
  match P.underlying t with
  | some (.interface _) => none
  | some _ => K { val := .ifc t v }
  | none => none
theorem ifaceK_ok {β : Type} {P : Program} {o : Oper} {t : TypeId} {x : Operand} (hop : o.op = .makeInterface t x) {E : Operand → AV} {H : Nat → Ent} {new : Nat} {K : Eff → Option β} {r : β} (h : ifaceK P t (E x) K = some r) : ∃ e, K e = some r ∧ EffOK P o E H new e := by
  unfold ifaceK at h
  split at h
  · cases h
  · rename_i d hni hd
    refine ⟨_, h, fun Γ ρ hp wd act hI hE hH hn hfree => lstep_of_ok ?_⟩
    have hv := hE x (by simp [hop, Op.operands])
    refine .pure hI (.iface t (act.eval x)) ?_ ?_ rfl
    · simp only [execOp, hop]
      refine run_v ?_
      simp only [Instr.makeInterface, Sem.run_bind, run_underlying' hd, Result.andThen]
      rfl
    · simp only [VR]; exact ⟨_, rfl, hv⟩
  · cases h

/-- A new slice of no parts, with room. -/
def makeK {β : Type} (P : Program) (t : TypeId) (a c : AV) (new : Nat) (K : Eff → Option β) : Option β :=
  match P.underlying t with
  | some (.slice el) => (match P.info? el with
    | none => none
    | some ie => (match ie.zero with
      | none => none
      | some z => (match shOf P 6 el with
        | none => none
        | some s => (match a, c with
          | .val (.int _ l), .val (.int _ n) => if l = 0 ∧ 0 < ie.size then ifK (decide (0 ≤ n) && (decide (n.toNat * ie.bytes ≤ 140737488355328) && decide (n ≤ 4611686018427387904))) (K { wb := [(new, .live { cells := .arr s [], rw := true, grow := some ie.size })], nw := 1, val := .slc new 0 0 .unk }) else none
          | _, _ => none))))
  | _ => none
theorem makeK_ok {β : Type} {P : Program} {o : Oper} {t : TypeId} {x y : Operand} (hop : o.op = .makeSlice t x y) {E : Operand → AV} {H : Nat → Ent} {new : Nat} {K : Eff → Option β} {r : β} (h : makeK P t (E x) (E y) new K = some r) : ∃ e, K e = some r ∧ EffOK P o E H new e := by
  unfold makeK at h
  split at h
  case h_2 => cases h
  rename_i el hu
  split at h
  · cases h
  rename_i ie hi
  split at h
  · cases h
  rename_i z hz
  split at h
  · cases h
  rename_i s hs
  split at h
  case h_2 => cases h
  rename_i k1 l k2 n hx hy
  split at h
  case isFalse => cases h
  rename_i hc
  obtain ⟨rfl, hsz⟩ := hc
  obtain ⟨hcond, h⟩ := ifK_some h
  simp only [Bool.and_eq_true, decide_eq_true_eq] at hcond
  obtain ⟨c1, c2, c3⟩ := hcond
  refine ⟨_, h, fun Γ ρ hp w act hI hE hH hn hfree => lstep_of_ok ?_⟩
  have vx := hE x (by simp [hop, Op.operands])
  have vy := hE y (by simp [hop, Op.operands])
  rw [hx] at vx
  rw [hy] at vy
  simp only [VR] at vx vy
  obtain ⟨N, rfl⟩ := Int.eq_ofNat_of_zero_le c1
  have hN : (N : Int).toNat = N := by simp
  rw [hN] at c2
  have hprod : ie.bytes * N = N * ie.bytes := Nat.mul_comm _ _
  have w1 : IntKind.i64.wrap (N : Int) = N := by simp [IntKind.wrap, IntKind.bits, IntKind.signed]; omega
  have w0 : IntKind.i64.wrap 0 = 0 := by decide
  have hinfo : (typeInfo el).run P w = .ok ie w := by simp [typeInfo, hi, Result.andThen]
  let cs : Array Value := (Array.range (N * ie.size)).map ((if N * ie.size = 0 then #[] else z.cells)[· % (if N * ie.size = 0 then #[] else z.cells).size]!)
  have hcs : cs.size = N * ie.size := by simp [cs]
  have hr : (Instr.makeSlice t (act.eval x) (act.eval y)).run P w = .ok (.slice (some ⟨w.heap.size, 0, none⟩) 0 N) { w with heap := w.heap.push (.cells cs el (0, 0)) } := by
    rw [vx, vy]
    have e1 : ¬ (281474976710656 : Int) < (ie.bytes : Int) * (N : Int) := by
      have e2 : ((ie.bytes * N : Nat) : Int) = (ie.bytes : Int) * (N : Int) := by push_cast; rfl
      rw [← e2, hprod]
      omega
    have e3 : ¬ (N : Int) < 0 := by omega
    have hA : ∀ (k : IntKind) (v : Int) (w : World), (asInt (.int k v)).run P w = .ok v w := fun _ _ _ => rfl
    simp only [Instr.makeSlice, Sem.run_bind, run_underlying' hu, Result.andThen, hA, Sem.run_pure, hinfo, w1, w0]
    by_cases hz0 : N * ie.size = 0
    · simp [e1, e3, hz0, run_size hi, run_newRow, Result.andThen, cs]
    · simp [e1, e3, hz0, run_size hi, run_zero hi hz, run_newRow, Result.andThen, cs]
  obtain ⟨g1, g2⟩ := hI.alloc (w' := { w with heap := w.heap.push (.cells cs el (0, 0)) }) hn (hfree new (Nat.le_refl _) (by simp)) cs el (.arr s []) (some ie.size) N rfl rfl rfl rfl (fun i v hv => by simp [Sh.flatl] at hv) (by simp [Cells.len, Sh.flatl]) (fun sz hsz2 => by injection hsz2 with hsz2; rw [hcs, hsz2])
  refine ⟨_, .value (.slice (some ⟨w.heap.size, 0, none⟩) 0 N), .slice (some ⟨w.heap.size, 0, none⟩) 0 N, { w with heap := w.heap.push (.cells cs el (0, 0)) }, ?_, .inl rfl, g1, ?_, g2⟩
  · simp only [execOp, hop]
    exact run_v hr
  · simp only [VR]
    exact .inl ⟨w.heap.size, 0, N, N, by simp [Ren.put], Nat.zero_le _, ⟨rfl, rfl⟩, rfl⟩

def partV (P : Program) (t : TypeId) (cs : Array Value) (off : Nat) : Option Value :=
  match P.underlying t with
  | some (.struct _) => (P.info? t).map fun i => .agg ⟨(cs.toList.drop off).take i.size⟩
  | some (.array _ _) => (P.info? t).map fun i => .agg ⟨(cs.toList.drop off).take i.size⟩
  | some (.int _) => cs.toList[off]?
  | some .bool => cs.toList[off]?
  | _ => none
def eqL {α : Type} (f : α → Option Bool) : List α → Option Bool
  | [] => some true
  | a :: l => (f a).bind fun r => (eqL f l).map fun q => r && q
def eqV (P : Program) : Nat → TypeId → Value → Value → Option Bool
  | 0, _, _, _ => none
  | d + 1, t, x, y => match P.underlying t, x, y with
    | some (.int _), .int k a, .int k' b => if k = k' then some (a == b) else none
    | some .bool, .bool a, .bool b => some (a == b)
    | some (.struct fs), .agg xs, .agg ys => if P.stoodInHeld t = true then none else eqL (fun f => if f.name ≠ "_" then (partV P f.type xs f.offset).bind fun a => (partV P f.type ys f.offset).bind fun b => eqV P d f.type a b else some true) fs.toList
    | some (.array n e), .agg xs, .agg ys => (P.info? e).bind fun i => eqL (fun j => (partV P e xs (j * i.size)).bind fun a => (partV P e ys (j * i.size)).bind fun b => eqV P d e a b) (List.range n)
    | _, _, _ => none
theorem partV_run {P : Program} {t : TypeId} {cs : Array Value} {off : Nat} {v : Value} (h : partV P t cs off = some v) (w : World) : (part t cs off).run P w = .ok v w := by
  unfold partV at h
  have ext : ∀ n, cs.extract off (off + n) = ⟨(cs.toList.drop off).take n⟩ := fun n => by
    apply Array.toList_inj.1
    simp
  split at h
  · rename_i fs hu
    simp only [Option.map_eq_some_iff] at h
    obtain ⟨i, hi, rfl⟩ := h
    simp [part, isAgg, run_underlying' hu, run_size hi, Result.andThen, ext]
  · rename_i n e hu
    simp only [Option.map_eq_some_iff] at h
    obtain ⟨i, hi, rfl⟩ := h
    simp [part, isAgg, run_underlying' hu, run_size hi, Result.andThen, ext]
  · rename_i k hu
    have h' : cs[off]? = some v := by simpa using h
    simp [part, isAgg, run_underlying' hu, Result.andThen, h']
  · rename_i hu
    have h' : cs[off]? = some v := by simpa using h
    simp [part, isAgg, run_underlying' hu, Result.andThen, h']
  · cases h
theorem eqFields_run {P : Program} {d : Nat} {xs ys : Array Value} (ih : ∀ (t : TypeId) (x y : Value) (r : Bool), eqV P d t x y = some r → ∀ w, (Op.equalIn d t x y).run P w = .ok r w) (w : World) : ∀ (fs : List Field) (r : Bool), eqL (fun f : Field => if f.name ≠ "_" then (partV P f.type xs f.offset).bind fun a => (partV P f.type ys f.offset).bind fun b => eqV P d f.type a b else some true) fs = some r → (Op.eqFields d xs ys fs).run P w = .ok r w
  | [], r, h => by simp [eqL] at h; subst h; rfl
  | f :: fs, r, h => by
    simp only [eqL, Option.bind_eq_some_iff, Option.map_eq_some_iff] at h
    obtain ⟨b, hb, q, hq, rfl⟩ := h
    have ihf := eqFields_run ih w fs q hq
    simp only [Op.eqFields, Sem.run_ite]
    split at hb
    · rename_i hn
      rw [if_pos hn]
      simp only [Option.bind_eq_some_iff] at hb
      obtain ⟨u, hu, v, hv, hb⟩ := hb
      simp only [Sem.run_bind, partV_run hu, partV_run hv, ih _ _ _ _ hb, Result.andThen, Sem.run_ite]
      cases b
      · simp [Sem.run_pure]
      · simpa [Sem.run_pure] using ihf
    · rename_i hn
      rw [if_neg hn]
      injection hb with hb
      subst hb
      simpa using ihf
theorem eqArr_run {P : Program} {d : Nat} {e : TypeId} {sz : Nat} {xs ys : Array Value} (ih : ∀ (t : TypeId) (x y : Value) (r : Bool), eqV P d t x y = some r → ∀ w, (Op.equalIn d t x y).run P w = .ok r w) (w : World) : ∀ (l : List Nat) (q : Bool), eqL (fun j => (partV P e xs (j * sz)).bind fun a => (partV P e ys (j * sz)).bind fun b => eqV P d e a b) l = some q →
    Sem.run P (forIn l ((none, ()) : Option Bool × Unit) fun i _ => do
      let a ← part e xs (i * sz)
      let b ← part e ys (i * sz)
      let c ← Op.equalIn d e a b
      if (!c) = true then pure (ForInStep.done (some false, ())) else pure (ForInStep.yield (none, ()))) w = .ok (if q = true then (none, ()) else (some false, ())) w
  | [], q, h => by simp [eqL] at h; subst h; rfl
  | j :: l, q, h => by
    simp only [eqL, Option.bind_eq_some_iff, Option.map_eq_some_iff] at h
    obtain ⟨b, ⟨u, hu, v, hv, hb⟩, q', hq, rfl⟩ := h
    have ihl := eqArr_run ih w l q' hq
    simp only [List.forIn_cons, Sem.run_bind, partV_run hu, partV_run hv, ih _ _ _ _ hb, Result.andThen]
    cases b
    · simp [Sem.run_pure]
    · simpa [Sem.run_pure, Result.andThen] using ihl
theorem eqV_run {P : Program} : ∀ (d : Nat) (t : TypeId) (x y : Value) (r : Bool), eqV P d t x y = some r → ∀ w, (Op.equalIn d t x y).run P w = .ok r w
  | 0, _, _, _, _, h, _ => by simp [eqV] at h
  | d + 1, t, x, y, r, h, w => by
    unfold eqV at h
    split at h
    · rename_i k0 k a k' b hu
      split at h
      case isFalse => cases h
      rename_i hk
      subst hk
      injection h with h; subst h
      exact run_equalIn_int w d t k k0 a b hu
    · rename_i a b hu
      injection h with h; subst h
      exact run_equalIn_bool' w d t a b hu
    · rename_i fs xs ys hu
      split at h
      · cases h
      rename_i hp
      have hf : P.fieldsOf t = fs := by simp [Program.fieldsOf, hu]
      rw [run_equalIn_agg w d t xs ys (by rw [hf]; exact hu) (by simpa using hp), hf]
      exact eqFields_run (eqV_run d) w fs.toList r h
    · rename_i n e xs ys hu
      simp only [Option.bind_eq_some_iff] at h
      obtain ⟨i, hi, h⟩ := h
      simp only [Op.equalIn, Sem.run_bind, run_underlying' hu, Result.andThen_ok, run_size hi]
      rw [Std.Legacy.Range.forIn_eq_forIn_range']
      have hr : List.range' ([:n] : Std.Legacy.Range).start ([:n] : Std.Legacy.Range).size ([:n] : Std.Legacy.Range).step = List.range n := by
        rw [List.range_eq_range']; simp [Std.Legacy.Range.size]
      rw [hr]
      have := eqArr_run (eqV_run d) w (List.range n) r h
      rw [this]
      cases r <;> rfl
    · cases h
/-- Constants alone. -/
def valsOf : List AV → Option (List Value)
  | [] => some []
  | .val v :: l => (valsOf l).map (v :: ·)
  | _ => none
theorem valsOf_ok {ρ : Ren} : ∀ {as : List AV} {vs us : List Value}, valsOf as = some vs → VRs ρ as us → us = vs
  | [], vs, us, h, hv => by
    simp [valsOf] at h; subst h
    match us, hv with
    | [], _ => rfl
    | _ :: _, hv => simp [VRs] at hv
  | a :: as, vs, us, h, hv => by
    match us, hv with
    | [], hv => simp [VRs] at hv
    | u :: us, hv =>
      simp only [VRs] at hv
      cases a with
      | val v =>
        simp only [valsOf, Option.map_eq_some_iff] at h
        obtain ⟨l, hl, rfl⟩ := h
        have h1 : u = v := hv.1
        rw [h1, valsOf_ok hl hv.2]
      | _ => simp [valsOf] at h
/-- Structs and arrays of numbers and bools, compared. -/
def eqK {β : Type} (P : Program) (op : BinOp) (t : TypeId) (a b : AV) (K : Eff → Option β) (base : Option β) : Option β :=
  match op, a, b with
  | .eql, .agg xs, .agg ys => (match valsOf xs, valsOf ys with
    | some us, some vs => if P.eqGuardType P.depth t = true then base else (match eqV P 10000 t (.agg ⟨us⟩) (.agg ⟨vs⟩) with
      | some r => K { val := .val (.bool r) }
      | none => base)
    | _, _ => base)
  | .neq, .agg xs, .agg ys => (match valsOf xs, valsOf ys with
    | some us, some vs => if P.eqGuardType P.depth t = true then base else (match eqV P 10000 t (.agg ⟨us⟩) (.agg ⟨vs⟩) with
      | some r => K { val := .val (.bool (!r)) }
      | none => base)
    | _, _ => base)
  | _, _, _ => base
theorem eqK_ok {β : Type} {P : Program} {o : Oper} {op : BinOp} {t yt : TypeId} {x y : Operand} (hop : o.op = .binOp op t x y yt) {E : Operand → AV} {H : Nat → Ent} {new : Nat} {K : Eff → Option β} {base : Option β} {r : β}
    (hbase : base = some r → ∃ e, K e = some r ∧ EffOK P o E H new e) (h : eqK P op t (E x) (E y) K base = some r) : ∃ e, K e = some r ∧ EffOK P o E H new e := by
  have fin : ∀ (xs ys : List AV) (us vs : List Value) (q : Bool), E x = .agg xs → E y = .agg ys → valsOf xs = some us → valsOf ys = some vs → P.eqGuardType P.depth t = false → eqV P 10000 t (.agg ⟨us⟩) (.agg ⟨vs⟩) = some q → ∀ q' : Bool, (op = .eql ∧ q' = q ∨ op = .neq ∧ q' = !q) → EffOK P o E H new { val := .val (.bool q') } := by
    intro xs ys us vs q hx hy h1 h2 hg hq q' hq' Γ ρ hp wd act hI hE _ _ _
    refine lstep_of_ok ?_
    have vx := hE x (by simp [hop, Op.operands])
    have vy := hE y (by simp [hop, Op.operands])
    rw [hx] at vx
    rw [hy] at vy
    simp only [VR] at vx vy
    obtain ⟨cx, ex, vx⟩ := vx
    obtain ⟨cy, ey, vy⟩ := vy
    have cx' : cx = ⟨us⟩ := Array.toList_inj.1 (valsOf_ok h1 vx)
    have cy' : cy = ⟨vs⟩ := Array.toList_inj.1 (valsOf_ok h2 vy)
    subst cx'; subst cy'
    refine .pure hI (.bool q') ?_ (by simp [VR]) rfl
    simp only [execOp, hop, ex, ey]
    refine run_v ?_
    have hr := eqV_run 10000 t _ _ q hq wd
    rcases hq' with ⟨rfl, rfl⟩ | ⟨rfl, rfl⟩
    · simp only [Sem.run_bind, run_eqGuard_agg wd .eql t x y ⟨us⟩ ⟨vs⟩ hg, Result.andThen, run_eql_struct, hr]
    · simp only [Sem.run_bind, run_eqGuard_agg wd .neq t x y ⟨us⟩ ⟨vs⟩ hg, Result.andThen, run_neq_struct, hr]
  unfold eqK at h
  split at h
  · rename_i xs ys hx hy
    split at h
    case h_2 => exact hbase h
    rename_i us vs h1 h2
    split at h
    · exact hbase h
    rename_i hg
    split at h
    case h_2 => exact hbase h
    rename_i q hq
    exact ⟨_, h, fin xs ys us vs q hx hy h1 h2 (by simpa using hg) hq q (.inl ⟨rfl, rfl⟩)⟩
  · rename_i xs ys hx hy
    split at h
    case h_2 => exact hbase h
    rename_i us vs h1 h2
    split at h
    · exact hbase h
    rename_i hg
    split at h
    case h_2 => exact hbase h
    rename_i q hq
    exact ⟨_, h, fin xs ys us vs q hx hy h1 h2 (by simpa using hg) hq (!q) (.inr ⟨rfl, rfl⟩)⟩
  · exact hbase h

def opK {β : Type} (P : Program) (env : Env P) (o : Oper) (E : Operand → AV) (H : Nat → Ent) (new : Nat) (K : Eff → Option β) : Option β :=
  match o.op with
  | .call { callee := .value fo, args := as, .. } => callK env as fo E H new K
  | .call { callee := .builtin .append, args := as, argTypes := ts } => (match as.toList, ts.toList with
    | [x, y], [t, t'] => if t' = t then appK P t (E x) (E y) H new K else zeroK P t t' (E x) (E y) new K
    | _, _ => none)
  | .indexAddr t x i => idxAddrK P t (E x) (E i) H K
  | .index t x i => idxK P t (E x) (E i) K
  | .slice t x lo hi none => sliceK P t E x lo hi K
  | .load t x => (match E x with
    | .elt b k i w f => eltLoadK P t b k i w f H new K
    | _ => baseK P o E H new K)
  | .fieldAddr s x f => (match E x with
    | .elt b k i w g => (match fieldOf P s f with
      | none => none
      | some fd => match P.info? fd.type with
        | none => none
        | some i' => if i'.size = 0 then none else K { val := .elt b k i w (g + fd.offset) })
    | _ => baseK P o E H new K)
  | .binOp op t x y _ => binK P o E op x y K (eqK P op t (E x) (E y) K (baseK P o E H new K))
  | .makeInterface t x => ifaceK P t (E x) K
  | .makeSlice t x y => makeK P t (E x) (E y) new K
  | _ => baseK P o E H new K

theorem opK_ok {β : Type} {P : Program} {env : Env P} {o : Oper} {E : Operand → AV} {H : Nat → Ent} {new : Nat} {K : Eff → Option β} {r : β} (h : opK P env o E H new K = some r) : ∃ e, K e = some r ∧ EffOK P o E H new e := by
  unfold opK at h
  split at h
  · rename_i fo as ts hop
    exact callK_ok hop h
  · rename_i as ts hop
    split at h
    case h_2 => cases h
    rename_i x y t t' has hts
    have e1 : as = #[x, y] := Array.toList_inj.1 has
    have e2 : ts = #[t, t'] := Array.toList_inj.1 hts
    subst e1; subst e2
    split at h
    · rename_i htt
      subst htt
      obtain ⟨e, hk, hok⟩ := appK_ok hop h
      exact ⟨e, hk, fun Γ ρ hp w a hI hE hH hn hfree => lstep_of_ok (hok Γ ρ hp w a hI hE hH hn hfree)⟩
    · obtain ⟨e, hk, hok⟩ := zeroK_ok (H := H) hop h
      exact ⟨e, hk, fun Γ ρ hp w a hI hE hH hn hfree => lstep_of_ok (hok Γ ρ hp w a hI hE hH hn hfree)⟩
  · rename_i t x i hop
    exact idxAddrK_ok hop h
  · rename_i t x i hop
    exact idxK_ok hop h
  · rename_i t x lo hi hop
    exact sliceK_ok hop h
  · rename_i t x hop
    split at h
    · rename_i b k i w f hx
      exact eltLoadK_ok hop hx h
    · exact baseK_ok h
  · rename_i s x f hop
    split at h
    · rename_i b k i w g hx
      split at h
      · cases h
      rename_i fd hfd
      split at h
      · cases h
      rename_i i' hi'
      split at h
      · cases h
      rename_i hsz
      refine ⟨_, h, fun Γ ρ hp wd act hI hE hH hn hfree => lstep_of_ok ?_⟩
      have hv := hE x (by simp [hop, Op.operands])
      rw [hx] at hv
      have hv' : VR ρ (.ptr b (k + i * w + g)) (act.eval x) := by simpa [VR] using hv
      obtain ⟨ρ', nx, cv, w', h1, h2, h3, h4, h5⟩ := coreFieldAddr_ok (P := P) (s := s) (f := f) hI hv' (e := { val := .ptr b (k + i * w + g + fd.offset) }) (by simp [coreFieldAddr, hfd, hi', hsz])
      refine ⟨ρ', nx, cv, w', by simpa only [execOp, hop] using h1, h2, h3, ?_, h5⟩
      simp only [VR] at h4 ⊢
      obtain ⟨cb, co, cc, h6, h7⟩ := h4
      exact ⟨cb, co, cc, h6, by rw [h7]; congr 3; omega⟩
    · exact baseK_ok h
  · rename_i op t x y yt hop
    exact binK_ok hop (fun h => eqK_ok hop baseK_ok h) h
  · rename_i t x hop
    exact ifaceK_ok hop h
  · rename_i t x y hop
    exact makeK_ok hop h
  · exact baseK_ok h

end Go.Ab
/-
  CORE 15: a function's code, evaluated with what comes behind it; the contract of a function.
-/
set_option linter.unusedVariables false
set_option linter.unusedSimpArgs false
namespace Go.Ab

/-! ### knowing less: slots that are not looked at any more, blocks let go or numbered anew -/
def distinct : List Nat → Bool
  | [] => true
  | x :: l => !l.contains x && distinct l
def blockObs (σ : List (Nat × Nat)) (n : Nat) (h : Heap) : List (Nat × Nat) → List Ent → Option (List Ob)
  | [], [] => some []
  | (x, _) :: s, e :: es => match e with
    | .free => none
    | .dead => blockObs σ n h s es
    | .live b => (blockObs σ n h s es).map fun l => Ob.ent (h.get x) (.live (renBlk σ n 0 b)) :: l
  | _, _ => none
def startsSame : Nat → Nat → List Nat → Bool
  | 0, _, _ => true
  | n + 1, i, x :: l => decide (x = i) && startsSame n (i + 1) l
  | _ + 1, _, [] => false
def weakObs (n0 : Nat) (σ : List Nat) (t t2 : List AV) (h h2 : Heap) : Option (List Ob) :=
  let σ' := σ.map fun x => (x, 0)
  let n := h2.length
  if σ.length = n ∧ n0 ≤ n ∧ startsSame n0 0 σ = true ∧ distinct σ = true ∧ (okL n t2 && okEnts n h2) = true then
    (blockObs σ' n h σ' h2).map fun l => Ob.avs (adapts (renL σ' n 0 t2) t) (renL σ' n 0 t2) :: l
  else none

theorem startsSame_spec : ∀ (n i : Nat) (l : List Nat), startsSame n i l = true → ∀ k, k < n → l[k]? = some (i + k)
  | 0, _, _, _, k, hk => by omega
  | n + 1, i, x :: l, h, k, hk => by
    simp only [startsSame, Bool.and_eq_true, decide_eq_true_eq] at h
    cases k with
    | zero => simp [h.1]
    | succ k => simpa [Nat.add_assoc, Nat.add_comm 1 k] using startsSame_spec n (i + 1) l h.2 k (by omega)
  | n + 1, _, [], h, _, _ => by simp [startsSame] at h
theorem distinct_spec : ∀ (l : List Nat), distinct l = true → ∀ (i j x y : Nat), i < j → l[i]? = some x → l[j]? = some y → x ≠ y
  | [], _, i, j, x, y, _, h, _ => by simp at h
  | a :: l, h, i, j, x, y, hij, hi, hj => by
    simp only [distinct, Bool.and_eq_true, Bool.not_eq_true'] at h
    cases j with
    | zero => omega
    | succ j =>
      cases i with
      | zero =>
        simp at hi hj; subst hi
        intro e; subst e
        have := List.mem_of_getElem? hj
        simp [this] at h
      | succ i => exact distinct_spec l h.2 i j x y (by omega) (by simpa using hi) (by simpa using hj)
theorem blockObs_spec {σ : List (Nat × Nat)} {n : Nat} {h : Heap} : ∀ (s : List (Nat × Nat)) (es : List Ent) (r : List Ob), blockObs σ n h s es = some r →
    (∀ i, i < es.length → es[i]? ≠ some .free) ∧ ∀ (i : Nat) (b : Blk) (x o : Nat), es[i]? = some (.live b) → s[i]? = some (x, o) → Ob.ent (h.get x) (.live (renBlk σ n 0 b)) ∈ r
  | [], [], r, hr => by simp [blockObs] at hr; subst hr; exact ⟨fun i hi => by simp at hi, fun i b x o hi => by simp at hi⟩
  | (x0, o0) :: s, e :: es, r, hr => by
    cases e with
    | free => simp [blockObs] at hr
    | dead =>
      simp only [blockObs] at hr
      obtain ⟨h1, h2⟩ := blockObs_spec s es r hr
      refine ⟨fun i hi => ?_, fun i b x o hi hs => ?_⟩
      · cases i with
        | zero => simp
        | succ i => simpa using h1 i (by simpa using hi)
      · cases i with
        | zero => simp at hi
        | succ i => exact h2 i b x o (by simpa using hi) (by simpa using hs)
    | live b0 =>
      simp only [blockObs, Option.map_eq_some_iff] at hr
      obtain ⟨l, hl, rfl⟩ := hr
      obtain ⟨h1, h2⟩ := blockObs_spec s es l hl
      refine ⟨fun i hi => ?_, fun i b x o hi hs => ?_⟩
      · cases i with
        | zero => simp
        | succ i => simpa using h1 i (by simpa using hi)
      · cases i with
        | zero =>
          simp at hi hs
          obtain ⟨rfl, rfl⟩ := hs
          subst hi
          exact List.mem_cons_self ..
        | succ i => exact List.mem_cons_of_mem _ (h2 i b x o (by simpa using hi) (by simpa using hs))
  | [], _ :: _, r, hr => by simp [blockObs] at hr
  | _ :: _, [], r, hr => by simp [blockObs] at hr

theorem weak_ok {n0 : Nat} {σ : List Nat} {t t2 : List AV} {h h2 : Heap} {l : List Ob} (hw : weakObs n0 σ t t2 h h2 = some l) (hob : ∀ p ∈ l, p.holds) {Γ : Ctx} (hn : Γ.n0 = n0) {ρ : Ren} {w : World} {cs : List Value} (hI : Inv Γ ρ h w) (hV : VRs ρ t cs) :
    n0 ≤ h2.length ∧ ∃ ρ2, Inv Γ ρ2 h2 w ∧ VRs ρ2 t2 cs := by
  unfold weakObs at hw
  simp only at hw
  split at hw
  case isFalse => cases hw
  rename_i hcond
  obtain ⟨hlen, hn0, hsame, hdis, hok⟩ := hcond
  simp only [Bool.and_eq_true] at hok
  simp only [Option.map_eq_some_iff] at hw
  obtain ⟨l0, hl0, rfl⟩ := hw
  simp only [List.mem_cons, forall_eq_or_imp] at hob
  obtain ⟨hslots, hblocks⟩ := hob
  obtain ⟨hnf, hbl⟩ := blockObs_spec _ _ _ hl0
  refine ⟨hn0, ?_⟩
  let σ' := σ.map fun x => (x, 0)
  let ρ2 : Ren := ⟨fun i => match σ[i]? with
    | some x => ρ x
    | none => none, ρ.base⟩
  have tied : Tied σ' h2.length 0 h2.length ρ ρ2 := by
    refine ⟨by simp [σ', hlen], rfl, fun b x off hb => ?_, fun b h1 h2 => by omega⟩
    simp only [σ', List.getElem?_map, Option.map_eq_some_iff] at hb
    obtain ⟨y, hy, he⟩ := hb
    injection he with e1 e2; subst e1; subst e2
    simp only [ρ2, hy]
    cases ρ y with
    | none => rfl
    | some d => simp
  have get_of : ∀ i blk, h2.get i = .live blk → h2[i]? = some (.live blk) ∧ i < h2.length := fun i blk hi => by
    rcases Nat.lt_or_ge i h2.length with h' | h'
    · rw [Heap.get, List.getD_eq_getElem?_getD, List.getElem?_eq_getElem h'] at hi
      exact ⟨by rw [List.getElem?_eq_getElem h']; simpa using hi, h'⟩
    · simp [Heap.get, List.getD_eq_getElem?_getD, List.getElem?_eq_none h'] at hi
  have live_of : ∀ i blk, h2.get i = .live blk → ∃ x, σ[i]? = some x ∧ h.get x = .live (renBlk σ' h2.length 0 blk) ∧ ρ2 i = ρ x := by
    intro i blk hi
    obtain ⟨h1, h3⟩ := get_of i blk hi
    have h4 : i < σ.length := by omega
    refine ⟨σ[i], List.getElem?_eq_getElem h4, hblocks _ (hbl i blk σ[i] 0 h1 (by simp [h4])), ?_⟩
    simp only [ρ2, List.getElem?_eq_getElem h4]
  have sold : ∀ blk d, blk.solid d → (renBlk σ' h2.length 0 blk).solid d := fun blk d hs => by
    rcases hs with hs | hs
    · exact .inl (by simpa [renBlk, renCells_len] using hs)
    · exact .inr hs
  refine ⟨ρ2, ⟨⟨?_, ?_, ?_, ?_, ?_, ?_, hI.sim.baseLe, hI.sim.old, ?_⟩, ?_, hI.sameBase, hI.os, hI.tape, hI.output, hI.size, hI.keep, ?_⟩, ?_⟩
  · intro i blk hi
    obtain ⟨x, h1, h3, h4⟩ := live_of i blk hi
    rw [h4]; exact hI.sim.some_ x _ h3
  · intro i blk d hi hd
    obtain ⟨x, h1, h3, h4⟩ := live_of i blk hi
    rw [h4] at hd
    exact (CellsAt.ren tied w _ _ _ (okEnts_get hok.2 (get_of i blk hi).1)).1 (hI.sim.cells x _ d h3 hd)
  · intro i blk d hi hd hs
    obtain ⟨x, h1, h3, h4⟩ := live_of i blk hi
    rw [h4] at hd
    exact hI.sim.inside x _ d h3 hd (sold _ _ hs)
  · intro i blk d hi hd hr hs
    obtain ⟨x, h1, h3, h4⟩ := live_of i blk hi
    rw [h4] at hd
    obtain ⟨b1, cs', el, b2, b3, b4⟩ := hI.sim.own x _ d h3 hd hr (sold _ _ hs)
    exact ⟨b1, cs', el, b2, by simpa [renBlk, renCells_len] using b3, b4⟩
  · intro i j blk blk' d d' hi hj hij hd hd' hr hs hs'
    obtain ⟨x, h1, h3, h4⟩ := live_of i blk hi
    obtain ⟨y, k1, k3, k4⟩ := live_of j blk' hj
    rw [h4] at hd; rw [k4] at hd'
    have hne : x ≠ y := by
      rcases Nat.lt_or_gt_of_ne hij with hlt | hgt
      · exact distinct_spec σ hdis i j x y hlt h1 k1
      · exact fun e => distinct_spec σ hdis j i y x hgt k1 h1 e.symm
    exact hI.sim.apart x y _ _ d d' h3 k3 hne hd hd' hr (sold _ _ hs) (sold _ _ hs')
  · intro i hi
    by_cases hl : i < h2.length
    · exfalso
      rw [Heap.get, List.getD_eq_getElem?_getD, List.getElem?_eq_getElem hl] at hi
      exact hnf i hl (by rw [List.getElem?_eq_getElem hl]; simpa using hi)
    · simp only [ρ2, List.getElem?_eq_none (show σ.length ≤ i by omega)]
  · intro i blk d hi hd hr hs
    obtain ⟨x, h1, h3, h4⟩ := live_of i blk hi
    rw [h4] at hd
    exact hI.sim.above x _ d h3 hd hr (sold _ _ hs)
  · intro b hb
    have := startsSame_spec n0 0 σ hsame b (by omega)
    simp only [ρ2, this, Nat.zero_add]
    exact hI.agree b hb
  · intro i blk d hi hd hr hs
    obtain ⟨x, h1, h3, h4⟩ := live_of i blk hi
    rw [h4] at hd
    exact hI.fresh x _ d h3 hd hr (sold _ _ hs)
  · refine (VRs.ren tied _ _ hok.1).1 ?_
    rw [← show adapts (renL σ' h2.length 0 t2) t = renL σ' h2.length 0 t2 from hslots]
    exact VRs.adapt _ _ hV

/-! ### code -/
def PostIs (Γ : Ctx) (e : Exit) (t : List AV) (h : Heap) : Exit → Act → World → Prop :=
  fun e2 a2 w2 => e2 = e ∧ ∃ ρ2, Inv Γ ρ2 h w2 ∧ VRs ρ2 t a2.tmps.toList ∧ a2.defers = []

/-- From this state the code ends in that one. -/
def Runs (P : Program) (n0 : Nat) (c : Code) (t : List AV) (h : Heap) (e : Exit) (t' : List AV) (h' : Heap) : Prop :=
  n0 ≤ h'.length ∧ ∀ Γ, Γ.n0 = n0 → ∀ ρ w (a : Act), Inv Γ ρ h w → VRs ρ t a.tmps.toList → a.defers = [] → c.wp P (PostIs Γ e t' h') a w
/-- The same of a loop's rounds, n of them at the most. -/
def Rounds (P : Program) (n0 n : Nat) (c : Code) (t : List AV) (h : Heap) (e : Exit) (t' : List AV) (h' : Heap) : Prop :=
  n0 ≤ h'.length ∧ ∀ Γ, Γ.n0 = n0 → ∀ ρ w (a : Act), Inv Γ ρ h w → VRs ρ t a.tmps.toList → a.defers = [] → Code.rounds P c (PostIs Γ e t' h') n a w

theorem Runs.of_rounds {P : Program} {n0 n : Nat} {c : Code} {t : List AV} {h : Heap} {e : Exit} {t' : List AV} {h' : Heap} (hr : Rounds P n0 n c t h e t' h') : Runs P n0 (.loop c) t h e t' h' :=
  ⟨hr.1, fun Γ hΓ ρ w a hI hV hd => wp_loop_rounds n (hr.2 Γ hΓ ρ w a hI hV hd)⟩

theorem Runs.weak {P : Program} {n0 : Nat} {c : Code} {t : List AV} {h : Heap} {e : Exit} {t1 t' : List AV} {h1 h' : Heap} (hr : Runs P n0 c t h e t1 h1) {σ : List Nat} {l : List Ob} (hw : weakObs n0 σ t1 t' h1 h' = some l) (hob : ∀ p ∈ l, p.holds) (hn : n0 ≤ h'.length) : Runs P n0 c t h e t' h' := by
  refine ⟨hn, fun Γ hΓ ρ w a hI hV hd => wp_mono (hr.2 Γ hΓ ρ w a hI hV hd) fun e2 a2 w2 hp => ?_⟩
  obtain ⟨h1, ρ2, h2, h3, h4⟩ := hp
  obtain ⟨_, ρ3, h5, h6⟩ := weak_ok hw hob hΓ h2 h3
  exact ⟨h1, ρ3, h5, h6, h4⟩

/-- A round that goes on; its end is the next round's beginning, by a weakening. -/
theorem Rounds.step {P : Program} {n0 n : Nat} {c : Code} {t : List AV} {h : Heap} {e : Exit} {t1 t2 t' : List AV} {h1 h2 h' : Heap} (hr : Runs P n0 c t h .normal t1 h1) {σ : List Nat} {l : List Ob} (hw : weakObs n0 σ t1 t2 h1 h2 = some l) (hob : ∀ p ∈ l, p.holds) (hrest : Rounds P n0 n c t2 h2 e t' h') : Rounds P n0 (n + 1) c t h e t' h' := by
  refine ⟨hrest.1, fun Γ hΓ ρ w a hI hV hd => ?_⟩
  refine wp_mono (hr.2 Γ hΓ ρ w a hI hV hd) fun e2 a2 w2 hp => ?_
  obtain ⟨rfl, ρ2, g2, g3, g4⟩ := hp
  obtain ⟨_, ρ3, g5, g6⟩ := weak_ok hw hob hΓ g2 g3
  exact hrest.2 Γ hΓ ρ3 w2 a2 g5 g6 g4
/-- A round that leaves the loop. -/
theorem Rounds.leave {P : Program} {n0 n : Nat} {c : Code} {t : List AV} {h : Heap} {e : Exit} {t' : List AV} {h' : Heap} (hr : Runs P n0 c t h e t' h') (he : e ≠ .normal) : Rounds P n0 (n + 1) c t h e t' h' := by
  refine ⟨hr.1, fun Γ hΓ ρ w a hI hV hd => ?_⟩
  refine wp_mono (hr.2 Γ hΓ ρ w a hI hV hd) fun e2 a2 w2 hp => ?_
  obtain ⟨rfl, hp⟩ := hp
  cases e2 with
  | normal => exact absurd rfl he
  | _ => exact ⟨rfl, hp⟩


theorem Rounds.of_runs {P : Program} {n0 n : Nat} {c : Code} {t : List AV} {h : Heap} {e : Exit} {t1 t' : List AV} {h1 h' : Heap} (hr : Runs P n0 c t h .normal t1 h1) (hrest : Rounds P n0 n c t1 h1 e t' h') : Rounds P n0 (n + 1) c t h e t' h' := by
  refine ⟨hrest.1, fun Γ hΓ ρ w a hI hV hd => ?_⟩
  refine wp_mono (hr.2 Γ hΓ ρ w a hI hV hd) fun e2 a2 w2 hp => ?_
  obtain ⟨rfl, ρ2, g2, g3, g4⟩ := hp
  exact hrest.2 Γ hΓ ρ2 w2 a2 g2 g3 g4

/-! ### regions -/
/-- Whether an operation is wanted; which way it went is kept in the slots. -/
def wantedK {β : Type} (ops : Array Oper) (o : Oper) (t : List AV) (K : Bool → List AV → Option β) : Option β :=
  match o.guard with
  | none => K true t
  | some (j, want) => match (ops[j]?).bind (·.dst) with
    | none => K false t
    | some d => match t.getD d (.val undef) with
      | .val (.bool b) => bif b then K (true == want) (t.set d (.val (.bool true))) else K (false == want) (t.set d (.val (.bool false)))
      | .val (.tuple _) => K false t
      | _ => none
theorem set_self {t : List AV} {d : Nat} {v : AV} (h : t.getD d (.val undef) = v) : t.set d v = t := by
  apply List.ext_getElem?
  intro i
  rw [List.getElem?_set]
  split
  · rename_i hi
    subst hi
    split
    · rename_i hlt
      rw [List.getElem?_eq_getElem hlt]
      rw [List.getD_eq_getElem?_getD, List.getElem?_eq_getElem hlt] at h
      simp at h; rw [h]
    · rename_i hlt
      rw [List.getElem?_eq_none (by omega)]
  · rfl
theorem wantedK_some {β : Type} {ops : Array Oper} {o : Oper} {t : List AV} {K : Bool → List AV → Option β} {r : β} (h : wantedK ops o t K = some r) : ∃ b, wantedA ops o t = some b ∧ K b t = some r := by
  unfold wantedK at h
  unfold wantedA
  split at h
  · rename_i hg; simp only [hg]; exact ⟨true, rfl, h⟩
  · rename_i j want hg
    simp only [hg]
    split at h
    · rename_i hd; simp only [hd]; exact ⟨false, rfl, h⟩
    · rename_i d hd
      simp only [hd]
      split at h
      · rename_i b hb
        simp only [hb]
        refine ⟨_, rfl, ?_⟩
        cases b with
        | true =>
          simp only [cond_true] at h
          rw [set_self hb] at h; exact h
        | false =>
          simp only [cond_false] at h
          rw [set_self hb] at h; exact h
      · rename_i x hb; simp only [hb]; exact ⟨false, rfl, h⟩
      · cases h

def stepK {β : Type} (P : Program) (env : Env P) (ops : Array Oper) (o : Oper) (t : List AV) (h : Heap) (K : List AV → Did → Option β) : Option β :=
  wantedK ops o t fun wt t => match wt with
    | false => K t ⟨guardSlot ops o, [], o.dst, .val undef, [], h.length, 0⟩
    | true => opK P env o (evalE t) h.get h.length fun e => K t ⟨guardSlot ops o ++ tmpsOf o.op.operands.toList, e.rb, o.dst, e.val, e.wb, h.length, e.nw⟩

theorem stepK_ok {β : Type} {P : Program} {env : Env P} {ops : Array Oper} {i : Nat} {o : Oper} (hi : ops[i]? = some o) {t : List AV} {h : Heap} {K : List AV → Did → Option β} {r : β} (hs : stepK P env ops o t h K = some r) : ∃ d, K t d = some r ∧ Good P ops i t h d := by
  unfold stepK at hs
  obtain ⟨b, hw, hs⟩ := wantedK_some hs
  have hwant : ∀ t', (∀ s ∈ guardSlot ops o, t'.getD s (.val undef) = t.getD s (.val undef)) → wantedA ops o t' = some b := by
    intro t' hg
    unfold wantedA at hw ⊢
    unfold guardSlot at hg
    cases hgd : o.guard with
    | none => simpa [hgd] using hw
    | some jw =>
      obtain ⟨j, want⟩ := jw
      simp only [hgd] at hw hg ⊢
      cases hdd : (ops[j]?).bind (·.dst) with
      | none => simpa [hdd] using hw
      | some d =>
        simp only [hdd] at hw hg ⊢
        rw [hg d (by simp)]; exact hw
  cases b with
  | false =>
    refine ⟨_, hs, rfl, fun Γ t' h' ha hn ρ w a hI hV hd Q K hK => ?_⟩
    unfold wpOp
    simp only [hi]
    have := yielded_of hV (hwant t' fun s hs => ha.slots s hs)
    simp only [this, Bool.false_eq_true, if_false]
    refine hK ρ w _ hI (putT_VRs hV o.dst (by simp [VR])) ?_
    cases o.dst <;> simpa [Act.put] using hd
  | true =>
    obtain ⟨e, hk, hok⟩ := opK_ok hs
    refine ⟨_, hk, rfl, fun Γ t' h' ha hn ρ w a hI hV hd Q K hK => ?_⟩
    unfold wpOp
    simp only [hi]
    have := yielded_of hV (hwant t' fun s hs => ha.slots s (List.mem_append.2 (.inl hs)))
    simp only [this, if_true]
    refine .inl ?_
    refine hok Γ ρ h' w a hI (fun x hx => ?_) (fun b hb => ha.blocks b hb) hn (fun x h1 h2 => ha.free x h1 h2) K Q fun ρ' w' cv h1 h2 h3 => ?_
    · rw [← evalE_agree ha (x := x) fun s hs => by subst hs; exact List.mem_append.2 (.inr (mem_tmpsOf (by simpa using hx)))]
      exact VR_evalE hV x
    · refine hK ρ' w' _ h3 (putT_VRs (VRs.mono h1 _ _ hV) o.dst h2) ?_
      cases o.dst <;> simpa [Act.put] using hd

def opsK {β : Type} (P : Program) (env : Env P) (ops : Array Oper) : List Oper → List AV → Heap → List Did → (List Did → List AV → Heap → Option β) → Option β
  | [], t, h, acc, K => K acc.reverse t h
  | o :: rest, t, h, acc, K => stepK P env ops o t h fun t d => opsK P env ops rest (d.t t) (d.h h) (d :: acc) K
theorem opsK_ok {β : Type} {P : Program} {env : Env P} {ops : Array Oper} {K : List Did → List AV → Heap → Option β} {r : β} : ∀ (l : List Oper) (k : Nat) (t : List AV) (h : Heap) (acc : List Did), (∀ i o, l[i]? = some o → ops[k + i]? = some o) → opsK P env ops l t h acc K = some r →
    ∃ dids, dids.length = l.length ∧ GoodAll P ops k t h dids ∧ K (acc.reverse ++ dids) (endT t dids) (endH h dids) = some r
  | [], k, t, h, acc, _, hs => ⟨[], rfl, trivial, by simpa [opsK, endT, endH] using hs⟩
  | o :: rest, k, t, h, acc, hl, hs => by
    simp only [opsK] at hs
    obtain ⟨d, hk, hg⟩ := stepK_ok (i := k) (by simpa using hl 0 o rfl) hs
    obtain ⟨dids, h1, h2, h3⟩ := opsK_ok rest (k + 1) _ _ _ (fun i o' hi => by have := hl (i + 1) o' (by simpa using hi); rw [show k + 1 + i = k + (i + 1) by omega]; exact this) hk
    exact ⟨d :: dids, by simp [h1], ⟨hg, h2⟩, by simpa [endT, endH] using h3⟩

def regK {β : Type} (P : Program) (env : Env P) (ops : Array Oper) (draw : Bool) (t : List AV) (h : Heap) (K : List AV → Heap → Option β) : Option β :=
  opsK P env ops ops.toList t h [] fun dids t' h' => match draw with
    | false => K t' h'
    | true => match masks ops.toList [] with
      | none => none
      | some ms => ifK (confs dids ms) (K t' h')

/-! ### code -/
def PostAt (n0 : Nat) (P : Program) (c : Code) (t : List AV) (h : Heap) (e : Exit) (t' : List AV) (h' : Heap) : Prop := Runs P n0 c t h e t' h'

theorem regK_ok {β : Type} {P : Program} (hm : P.follows .mixedOrders = true) {env : Env P} {id : Nat} {ops : Array Oper} {draw : Bool} {t : List AV} {h : Heap} {K : List AV → Heap → Option β} {r : β} {n0 : Nat} (hn : n0 ≤ h.length) (hs : regK P env ops draw t h K = some r) :
    ∃ t' h', K t' h' = some r ∧ Runs P n0 (.region id ops draw) t h .normal t' h' := by
  unfold regK at hs
  obtain ⟨dids, h1, h2, h3⟩ := opsK_ok ops.toList 0 t h [] (fun i o hi => by simpa using hi) hs
  have hlen : dids.length = ops.size := by simpa using h1
  simp only [List.reverse_nil, List.nil_append] at h3
  have key : (draw = true → ∃ ms, masks ops.toList [] = some ms ∧ confs dids ms = true) → Runs P n0 (.region id ops draw) t h .normal (endT t dids) (endH h dids) := fun hdr =>
    ⟨Nat.le_trans hn (endH_length _ _), fun Γ hΓ ρ w a hI hV hd => region_ok hm hlen h2 hdr (by omega) hI hV hd fun ρ' w' a' g1 g2 g3 => ⟨rfl, ρ', g1, g2, g3⟩⟩
  cases draw with
  | false => exact ⟨_, _, h3, key (by simp)⟩
  | true =>
    simp only at h3
    split at h3
    · cases h3
    · rename_i ms hms
      obtain ⟨hc, hK⟩ := ifK_some h3
      exact ⟨_, _, hK, key fun _ => ⟨ms, hms, hc⟩⟩

/-- A loop, by what its rounds come to. -/
structure LSumm (P : Program) where
  b : Code
  S : {β : Type} → Nat → List AV → Heap → (Exit → List AV → Heap → Option β) → Option β
  ok : ∀ {β : Type} (n0 : Nat) (t : List AV) (h : Heap) (K : Exit → List AV → Heap → Option β) (r : β), n0 ≤ h.length → S n0 t h K = some r → ∃ e t' h', K e t' h' = some r ∧ Runs P n0 (.loop b) t h e t' h'
abbrev Loops (P : Program) := List (List Nat × LSumm P)
def Loops.find {P : Program} : Loops P → List Nat → Option (LSumm P)
  | [], _ => none
  | s :: l, p => if s.1 = p then some s.2 else Loops.find l p
def kid : Code → Nat → Option Code
  | .seq a _, 0 => some a
  | .seq _ b, 1 => some b
  | .cond _ x _, 0 => some x
  | .cond _ _ y, 1 => some y
  | .block _ b, 0 => some b
  | .loop b, 0 => some b
  | .scope b, 0 => some b
  | _, _ => none
/-- The piece of code at a place (told from the place outwards). -/
def subAt (C : Code) : List Nat → Option Code
  | [] => some C
  | i :: p => (subAt C p).bind fun c => kid c i
def Loops.fit {P : Program} (C : Code) (L : Loops P) : Prop := ∀ s ∈ L, subAt C s.1 = some (.loop s.2.b)
theorem Loops.find_ok {P : Program} {C : Code} : ∀ (L : Loops P) (p : List Nat) (s : LSumm P), L.fit C → L.find p = some s → subAt C p = some (.loop s.b)
  | [], p, s, _, h => by simp [Loops.find] at h
  | x :: l, p, s, hf, h => by
    simp only [Loops.find] at h
    split at h
    · rename_i hp; injection h with h; subst h; subst hp; exact hf x (List.mem_cons_self ..)
    · exact Loops.find_ok l p s (fun y hy => hf y (List.mem_cons_of_mem _ hy)) h

def blockExit (id : Nat) : Exit → Exit
  | .exit i => if i = id then .normal else .exit i
  | e => e

inductive Todo where
  | code (c : Code)
  | rounds (c : Code)
  | jumps (c x : Code)

def codeK {β : Type} (P : Program) (env : Env P) (n0 : Nat) : Nat → Loops P → List Nat → Todo → List AV → Heap → (Exit → List AV → Heap → Option β) → Option β
  | 0, _, _, _, _, _, _ => none
  | f + 1, L, p, .code .skip, t, h, K => K .normal t h
  | f + 1, L, p, .code (.label _), t, h, K => K .normal t h
  | f + 1, L, p, .code (.exit id), t, h, K => K (.exit id) t h
  | f + 1, L, p, .code (.goto l), t, h, K => K (.goto l) t h
  | f + 1, L, p, .code .ret, t, h, K => K .ret t h
  | f + 1, L, p, .code (.region _ ops draw), t, h, K => regK P env ops draw t h fun t' h' => K .normal t' h'
  | f + 1, L, p, .code (.seq a b), t, h, K => codeK P env n0 f L (0 :: p) (.code a) t h fun e t' h' => match e with
    | .normal => codeK P env n0 f L (1 :: p) (.code b) t' h' K
    | e => K e t' h'
  | f + 1, L, p, .code (.cond c x y), t, h, K => match evalE t c with
    | .val (.bool v) => bif v then codeK P env n0 f L (0 :: p) (.code x) t h K else codeK P env n0 f L (1 :: p) (.code y) t h K
    | _ => none
  | f + 1, L, p, .code (.block id b), t, h, K => codeK P env n0 f L (0 :: p) (.code b) t h fun e t' h' => K (blockExit id e) t' h'
  | f + 1, L, p, .code (.loop b), t, h, K => match L.find p with
    | some s => s.S n0 t h K
    | none => codeK P env n0 f L (0 :: p) (.rounds b) t h K
  | f + 1, L, p, .rounds b, t, h, K => codeK P env n0 f L p (.code b) t h fun e t' h' => match e with
    | .normal => codeK P env n0 f L p (.rounds b) t' h' K
    | e => K e t' h'
  | f + 1, L, p, .code (.scope b), t, h, K => codeK P env n0 f L (0 :: p) (.jumps b b) t h K
  | f + 1, L, p, .jumps b x, t, h, K => codeK P env n0 f L p (.code x) t h fun e t' h' => match e with
    | .goto l => (match findLabel b l with
      | some rest => codeK P env n0 f [] [] (.jumps b rest) t' h' K
      | none => K (.goto l) t' h')
    | e => K e t' h'
  | _, _, _, _, _, _, _ => none

/-- Code inside a scope, some jumps ahead. -/
def Code.hops (P : Program) (c : Code) (Q : Exit → Act → World → Prop) : Nat → Code → Act → World → Prop
  | 0, _, _, _ => False
  | n + 1, x, a, w => x.wp P (fun e a w => match e with
    | .goto l => (match findLabel c l with
      | some rest => Code.hops P c Q n rest a w
      | none => Q (.goto l) a w)
    | e => Q e a w) a w
theorem wp_scope_hops {P : Program} {Q : Exit → Act → World → Prop} {c : Code} (n : Nat) {a : Act} {w : World} (h : Code.hops P c Q n c a w) : (Code.scope c).wp P Q a w := by
  intro b k cs
  have key : ∀ n x a w, Code.hops P c Q n x a w → ∃ e a' w', Q e a' w' ∧ Arrives P (lone (b.at a (.code x :: .inScope c :: k)) cs w) b k cs e a' w' := by
    intro n
    induction n with
    | zero => intro x a w h; exact h.elim
    | succ n ih =>
      intro x a w h
      obtain ⟨e, a₁, w₁, hq, harr⟩ := h b (.inScope c :: k) cs
      cases e with
      | normal => exact ⟨.normal, a₁, w₁, hq, Steps.trans harr (.one step_inScope)⟩
      | exit id => exact ⟨.exit id, a₁, w₁, hq, fun k' hk => harr k' (by simp [exitTo, hk])⟩
      | goto l =>
        simp only at hq
        split at hq
        · rename_i rest hrest
          obtain ⟨e₂, a₂, w₂, hq₂, harr₂⟩ := ih rest a₁ w₁ hq
          exact ⟨e₂, a₂, w₂, hq₂, .of_steps (harr _ (by simp [gotoIn, hrest])) harr₂⟩
        · rename_i hrest
          exact ⟨.goto l, a₁, w₁, hq, fun k' hk => harr k' (by simp [gotoIn, hrest, hk])⟩
      | ret => exact ⟨_, a₁, w₁, hq, harr⟩
      | panic ch => exact ⟨_, a₁, w₁, hq, harr⟩
      | outgrown => exact ⟨_, a₁, w₁, hq, harr⟩
  obtain ⟨e, a₁, w₁, hq, harr⟩ := key n c a w h
  exact ⟨e, a₁, w₁, hq, .of_steps (.one step_scope) harr⟩

/-- The same by abstract states. -/
def Hops (P : Program) (n0 n : Nat) (c x : Code) (t : List AV) (h : Heap) (e : Exit) (t' : List AV) (h' : Heap) : Prop :=
  n0 ≤ h'.length ∧ ∀ Γ, Γ.n0 = n0 → ∀ ρ w (a : Act), Inv Γ ρ h w → VRs ρ t a.tmps.toList → a.defers = [] → Code.hops P c (PostIs Γ e t' h') n x a w

def Todo.good (P : Program) (n0 : Nat) : Todo → List AV → Heap → Exit → List AV → Heap → Prop
  | .code c, t, h, e, t', h' => Runs P n0 c t h e t' h'
  | .rounds c, t, h, e, t', h' => ∃ n, Rounds P n0 n c t h e t' h'
  | .jumps c x, t, h, e, t', h' => ∃ n, Hops P n0 n c x t h e t' h'
def Todo.at_ (C : Code) : Todo → List Nat → Prop
  | .code c, p => subAt C p = some c
  | .rounds c, p => subAt C p = some c
  | .jumps c x, p => subAt C p = some x

theorem codeK_ok {β : Type} {P : Program} (hm : P.follows .mixedOrders = true) {env : Env P} {n0 : Nat} {r : β} : ∀ (f : Nat) (L : Loops P) (p : List Nat) (td : Todo) (t : List AV) (h : Heap) (K : Exit → List AV → Heap → Option β) (C : Code), L.fit C → (L = [] ∨ td.at_ C p) → n0 ≤ h.length → codeK P env n0 f L p td t h K = some r →
    ∃ e t' h', K e t' h' = some r ∧ n0 ≤ h'.length ∧ td.good P n0 t h e t' h'
  | 0, L, p, td, t, h, K, C, _, _, hn, hr => by simp [codeK] at hr
  | f + 1, L, p, td, t, h, K, C, hL, hp, hn, hr => by
    have sub : ∀ i c c', (L = [] ∨ subAt C p = some c) → kid c i = some c' → (L = [] ∨ subAt C (i :: p) = some c') := by
      intro i c c' h1 h2
      rcases h1 with h1 | h1
      · exact .inl h1
      · exact .inr (by simp [subAt, h1, h2])
    cases td with
    | rounds b =>
      simp only [codeK] at hr
      obtain ⟨e, t1, h1, hk, hn1, hg⟩ := codeK_ok hm f L p (.code b) t h _ C hL hp hn hr
      cases e with
      | normal =>
        simp only at hk
        obtain ⟨e2, t2, h2, hk2, hn2, n, hg2⟩ := codeK_ok hm f L p (.rounds b) t1 h1 _ C hL hp hn1 hk
        exact ⟨e2, t2, h2, hk2, hn2, n + 1, Rounds.of_runs hg hg2⟩
      | _ => exact ⟨_, t1, h1, hk, hn1, 1, Rounds.leave hg (by simp)⟩
    | jumps b x =>
      simp only [codeK] at hr
      obtain ⟨e, t1, h1, hk, hn1, hg⟩ := codeK_ok hm f L p (.code x) t h _ C hL hp hn hr
      have leave : ∀ e', e = e' → (∀ l, e' = .goto l → findLabel b l = none) → Hops P n0 1 b x t h e t1 h1 := by
        intro e' he hl
        refine ⟨hn1, fun Γ hΓ ρ w a hI hV hd => ?_⟩
        refine wp_mono (hg.2 Γ hΓ ρ w a hI hV hd) fun e2 a2 w2 hp => ?_
        obtain ⟨h5, hp⟩ := hp
        subst h5
        cases he' : e2 with
        | goto l =>
          simp only [hl l (by rw [← he, he'])]
          exact ⟨rfl, hp⟩
        | _ => exact ⟨rfl, hp⟩
      cases e with
      | goto l =>
        simp only at hk
        split at hk
        · rename_i rest hrest
          obtain ⟨e2, t2, h2, hk2, hn2, n, hg2⟩ := codeK_ok hm f [] [] (.jumps b rest) t1 h1 _ C (by intro s hs; simp at hs) (.inl rfl) hn1 hk
          refine ⟨e2, t2, h2, hk2, hn2, n + 1, hn2, fun Γ hΓ ρ w a hI hV hd => ?_⟩
          refine wp_mono (hg.2 Γ hΓ ρ w a hI hV hd) fun e3 a3 w3 hp => ?_
          obtain ⟨rfl, ρ3, g1, g2, g3⟩ := hp
          simp only [hrest]
          exact hg2.2 Γ hΓ ρ3 w3 a3 g1 g2 g3
        · rename_i hrest
          exact ⟨_, t1, h1, hk, hn1, 1, leave _ rfl (fun l' hl => by injection hl with hl; subst hl; exact hrest)⟩
      | _ => exact ⟨_, t1, h1, hk, hn1, 1, leave _ rfl (by simp)⟩
    | code c =>
    cases c with
    | skip => simp only [codeK] at hr; exact ⟨_, t, h, hr, hn, hn, fun Γ hΓ ρ w a hI hV hd => wp_skip ⟨rfl, ρ, hI, hV, hd⟩⟩
    | label l => simp only [codeK] at hr; exact ⟨_, t, h, hr, hn, hn, fun Γ hΓ ρ w a hI hV hd => wp_label ⟨rfl, ρ, hI, hV, hd⟩⟩
    | exit id => simp only [codeK] at hr; exact ⟨_, t, h, hr, hn, hn, fun Γ hΓ ρ w a hI hV hd => wp_exit ⟨rfl, ρ, hI, hV, hd⟩⟩
    | goto l => simp only [codeK] at hr; exact ⟨_, t, h, hr, hn, hn, fun Γ hΓ ρ w a hI hV hd => wp_goto ⟨rfl, ρ, hI, hV, hd⟩⟩
    | ret => simp only [codeK] at hr; exact ⟨_, t, h, hr, hn, hn, fun Γ hΓ ρ w a hI hV hd => wp_ret ⟨rfl, ρ, hI, hV, hd⟩⟩
    | region id ops draw =>
      simp only [codeK] at hr
      obtain ⟨t1, h1, hk, hg⟩ := regK_ok (id := id) hm hn hr
      exact ⟨_, t1, h1, hk, hg.1, hg⟩
    | seq a b =>
      simp only [codeK] at hr
      obtain ⟨e, t1, h1, hk, hn1, hg⟩ := codeK_ok hm f L (0 :: p) (.code a) t h _ C hL (sub 0 _ _ hp rfl) hn hr
      have leave : e ≠ .normal → Runs P n0 (.seq a b) t h e t1 h1 := fun he =>
        ⟨hn1, fun Γ hΓ ρ w act hI hV hd => wp_seq (wp_mono (hg.2 Γ hΓ ρ w act hI hV hd) fun e2 a2 w2 hp => by
          obtain ⟨rfl, hp⟩ := hp
          cases e2 with
          | normal => exact absurd rfl he
          | _ => exact ⟨rfl, hp⟩)⟩
      cases e with
      | normal =>
        simp only at hk
        obtain ⟨e2, t2, h2, hk2, hn2, hg2⟩ := codeK_ok hm f L (1 :: p) (.code b) t1 h1 _ C hL (sub 1 _ _ hp rfl) hn1 hk
        refine ⟨e2, t2, h2, hk2, hn2, hn2, fun Γ hΓ ρ w act hI hV hd => wp_seq (wp_mono (hg.2 Γ hΓ ρ w act hI hV hd) fun e3 a3 w3 hp => ?_)⟩
        obtain ⟨rfl, ρ3, g1, g2, g3⟩ := hp
        exact hg2.2 Γ hΓ ρ3 w3 a3 g1 g2 g3
      | _ => exact ⟨_, t1, h1, hk, hn1, leave (by simp)⟩
    | cond c x y =>
      simp only [codeK] at hr
      split at hr
      case h_2 => cases hr
      rename_i v hc
      cases v with
      | true =>
        obtain ⟨e, t1, h1, hk, hn1, hg⟩ := codeK_ok hm f L (0 :: p) (.code x) t h _ C hL (sub 0 _ _ hp rfl) hn hr
        refine ⟨e, t1, h1, hk, hn1, hn1, fun Γ hΓ ρ w act hI hV hd => wp_cond_true ?_ (hg.2 Γ hΓ ρ w act hI hV hd)⟩
        have := VR_evalE hV c
        rw [hc] at this; simpa [VR] using this
      | false =>
        obtain ⟨e, t1, h1, hk, hn1, hg⟩ := codeK_ok hm f L (1 :: p) (.code y) t h _ C hL (sub 1 _ _ hp rfl) hn hr
        refine ⟨e, t1, h1, hk, hn1, hn1, fun Γ hΓ ρ w act hI hV hd => wp_cond_false ?_ (hg.2 Γ hΓ ρ w act hI hV hd)⟩
        have := VR_evalE hV c
        rw [hc] at this; simpa [VR] using this
    | block id b =>
      simp only [codeK] at hr
      obtain ⟨e, t1, h1, hk, hn1, hg⟩ := codeK_ok hm f L (0 :: p) (.code b) t h _ C hL (sub 0 _ _ hp rfl) hn hr
      refine ⟨_, t1, h1, hk, hn1, hn1, fun Γ hΓ ρ w act hI hV hd => wp_block (wp_mono (hg.2 Γ hΓ ρ w act hI hV hd) fun e2 a2 w2 hp => ?_)⟩
      obtain ⟨rfl, hp⟩ := hp
      cases e2 with
      | exit i =>
        simp only [Exit.inBlock, blockExit]
        split
        · exact ⟨rfl, hp⟩
        · exact ⟨rfl, hp⟩
      | _ => exact ⟨rfl, hp⟩
    | loop b =>
      simp only [codeK] at hr
      split at hr
      · rename_i s hs
        have hb : subAt C p = some (.loop b) := by
          rcases hp with hp | hp
          · subst hp; simp [Loops.find] at hs
          · exact hp
        have hb2 := Loops.find_ok L p s hL hs
        rw [hb] at hb2
        injection hb2 with hb2; injection hb2 with hb2; subst hb2
        obtain ⟨e, t1, h1, hk, hg⟩ := s.ok n0 t h K r hn hr
        exact ⟨e, t1, h1, hk, hg.1, hg⟩
      · obtain ⟨e, t1, h1, hk, hn1, n, hg⟩ := codeK_ok hm f L (0 :: p) (.rounds b) t h _ C hL (sub 0 _ _ hp rfl) hn hr
        exact ⟨e, t1, h1, hk, hn1, Runs.of_rounds hg⟩
    | scope b =>
      simp only [codeK] at hr
      obtain ⟨e, t1, h1, hk, hn1, n, hg⟩ := codeK_ok hm f L (0 :: p) (.jumps b b) t h _ C hL (sub 0 _ _ hp rfl) hn hr
      exact ⟨e, t1, h1, hk, hn1, hn1, fun Γ hΓ ρ w act hI hV hd => wp_scope_hops n (hg.2 Γ hΓ ρ w act hI hV hd)⟩
    | _ => simp [codeK] at hr

/-! ### a function -/
def resA (P : Program) (t : List AV) (h : Heap) : List ResultVar → Option (List AV)
  | [] => some []
  | .tmp s :: l => (resA P t h l).map ((t.getD s (.val undef)) :: ·)
  | .cell a ty :: l => match t.getD a (.val undef) with
    | .ptr b o => match h.get b with
      | .live blk => match blk.cells with
        | .lit cs => (partA P ty cs o).bind fun v => (resA P t h l).map (v :: ·)
        | _ => none
      | _ => none
    | _ => none
def resV : List AV → AV
  | [v] => v
  | l => .tup l

theorem run_results {P : Program} {Γ : Ctx} {ρ : Ren} {h : Heap} {w : World} (hI : Inv Γ ρ h w) {t : List AV} {a : Act} (hV : VRs ρ t a.tmps.toList) : ∀ (l : List ResultVar) (vs : List AV), resA P t h l = some vs →
    ∃ us, (l.mapM fun r : ResultVar => (match r with
      | .tmp t => pure (a.tmps.getD t undef)
      | .cell x t => do loadVar t (← asAddr (a.tmps.getD x undef)) : Sem Value)).run P w = .ok us w ∧ VRs ρ vs us
  | [], vs, hr => by simp [resA] at hr; subst hr; exact ⟨[], rfl, by simp [VRs]⟩
  | .tmp s :: l, vs, hr => by
    simp only [resA, Option.map_eq_some_iff] at hr
    obtain ⟨vs', h1, rfl⟩ := hr
    obtain ⟨us, h2, h3⟩ := run_results hI hV l vs' h1
    refine ⟨a.tmps.getD s undef :: us, ?_, ?_⟩
    · simp only [List.mapM_cons, Sem.run_bind, Sem.run_pure, Result.andThen, h2]
    · simp only [VRs]; exact ⟨by simpa [evalE, Act.eval] using VR_evalE hV (.tmp s), h3⟩
  | .cell x ty :: l, vs, hr => by
    simp only [resA] at hr
    split at hr
    case h_2 => cases hr
    rename_i b o hx
    split at hr
    case h_2 => cases hr
    rename_i blk hblk
    split at hr
    case h_2 => cases hr
    rename_i cs hcs
    simp only [Option.bind_eq_some_iff, Option.map_eq_some_iff] at hr
    obtain ⟨v, hv, vs', h1, rfl⟩ := hr
    obtain ⟨us, h2, h3⟩ := run_results hI hV l vs' h1
    have hp := VR_evalE hV (.tmp x)
    simp only [evalE, Act.eval] at hp
    rw [hx] at hp
    simp only [VR] at hp
    obtain ⟨cb, co, cc, hρ, hp⟩ := hp
    have hca := hI.sim.cells b blk _ hblk hρ
    rw [hcs] at hca
    obtain ⟨u, h4, h5⟩ := loadVar_lit (P := P) hv hca
    refine ⟨u :: us, ?_, by simp only [VRs]; exact ⟨h5, h3⟩⟩
    have h6 : (asAddr (a.tmps.getD x undef)).run P w = .ok ⟨cb, co + o, none⟩ w := by rw [hp]; rfl
    simp only at h4
    simp only [List.mapM_cons, Sem.run_bind, h6, Sem.run_pure, Result.andThen, h4, h2]

theorem Does.of_runs {P : Program} {f : FuncId} {fn : Func} {c : Code} {args : List AV} {h : Heap} (hf : P.funcs[f]? = some fn) (hb : fn.body = some c) (hname : (fn.name == "runtime.NumGoroutine") = false)
    {e : Exit} {t1 : List AV} {h1 : Heap} (hr : Runs P h.length c (args ++ List.replicate (fn.ntmps - args.length) (.val undef)) h e t1 h1) (he : e = .ret ∨ e = .normal)
    {vs : List AV} (hres : resA P t1 h1 fn.results.toList = some vs) {v : AV} {h' : Heap} {σ : List Nat} {l : List Ob} (hw : weakObs h.length σ [resV vs] [v] h1 h' = some l) (hob : ∀ p ∈ l, p.holds) : Does P f args h v h' := by
  intro ρ w cargs hsim hargs
  unfold Invokes
  have hcall : (callFunc f cargs).run P w = .ok (.enter f cargs) w := by
    simp only [callFunc, program, Sem.run_bind, Sem.run, Result.andThen, hf]
    simp only [hname, hb, Option.isNone_some, Bool.false_eq_true, if_false]
    rfl
  rw [hcall]
  simp only
  have hlen := hargs.length
  refine calls_of_wp hf hb ?_
  let Γ : Ctx := ⟨h.length, ρ, h, w⟩
  have hI : Inv Γ ρ h w := by
    refine ⟨hsim, fun _ _ => rfl, rfl, rfl, rfl, rfl, Nat.le_refl _, fun _ _ _ => rfl, fun b blk d hb hd hrw hs => ?_⟩
    refine .inr ⟨b, blk, d, ?_, hb, hrw, hd, hs, rfl⟩
    rcases Nat.lt_or_ge b h.length with h' | h'
    · exact h'
    · simp [Heap.get, List.getD_eq_getElem?_getD, List.getElem?_eq_none h'] at hb
  have hV : VRs ρ (args ++ List.replicate (fn.ntmps - args.length) (.val undef)) ({ tmps := cargs ++ Array.replicate (fn.ntmps - cargs.size) undef, defers := [] } : Act).tmps.toList := by
    simp only [Array.toList_append, Array.toList_replicate]
    refine hargs.append ?_
    rw [hlen]
    simpa using VRs.replicate (ρ := ρ) (a := .val undef) (v := undef) (by simp [VR]) (fn.ntmps - cargs.size)
  refine wp_mono (hr.2 Γ rfl ρ w _ hI hV rfl) fun e2 a2 w2 hp => ?_
  obtain ⟨rfl, ρ2, g2, g3, g4⟩ := hp
  obtain ⟨us, k1, k2⟩ := run_results (P := P) g2 g3 fn.results.toList vs hres
  have hrun : ∃ cv, (results fn a2.tmps).run P w2 = .ok cv w2 ∧ VR ρ2 (resV vs) cv := by
    have hsz := k2.length
    have h5 : (fn.results.mapM fun r : ResultVar => (match r with
      | .tmp t => pure (a2.tmps.getD t undef)
      | .cell x t => do loadVar t (← asAddr (a2.tmps.getD x undef)) : Sem Value)).run P w2 = .ok us.toArray w2 := by
      rw [Array.mapM_eq_mapM_toList, map_eq_pure_bind, Sem.run_bind, k1]
      rfl
    by_cases h1 : us.length = 1
    · match us, h1, k2, h5 with
      | [u], _, k2, h5 =>
        match vs, hsz, k2 with
        | [v1], _, k2 =>
          simp only [VRs] at k2
          refine ⟨u, ?_, k2.1⟩
          unfold results
          rw [Sem.run_bind]
          refine Eq.trans (congrArg (fun r => Result.andThen r _) h5) ?_
          simp [Result.andThen, pure, Sem.run]
    · refine ⟨.tuple us.toArray, ?_, ?_⟩
      · unfold results
        rw [Sem.run_bind]
        refine Eq.trans (congrArg (fun r => Result.andThen r _) h5) ?_
        simp [Result.andThen, h1, pure, Sem.run]
      · have : resV vs = .tup vs := by
          unfold resV
          split
          · simp at hsz; omega
          · rfl
        rw [this]; simp only [VR]; exact ⟨us.toArray, rfl, by simpa using k2⟩
  obtain ⟨cv, h5, h6⟩ := hrun
  obtain ⟨_, ρ3, h7, h8⟩ := weak_ok hw hob (Γ := Γ) rfl g2 (cs := [cv]) (by simp only [VRs]; exact ⟨h6, trivial⟩)
  simp only [VRs] at h8
  rcases he with rfl | rfl
  · exact ⟨g4, cv, h5, ρ3, cv, rfl, h8.1, h7⟩
  · exact ⟨g4, cv, h5, ρ3, cv, rfl, h8.1, h7⟩

end Go.Ab
/-
  CORE 16: values of a shape as abstract values and blocks.
-/
set_option linter.unusedVariables false
set_option linter.unusedSimpArgs false
namespace Go.Ab

mutual
/-- The blocks that lie behind a value. -/
def Sh.ents : (s : Sh) → s.T → List Ent
  | .int _, _ => []
  | .bool, _ => []
  | .str, _ => []
  | .st l, x => Sh.entss l x
  | .sl e, l => [.live { cells := .arr e l, rw := false }]
  | .rows e, l => [.live { cells := .arrs e l, rw := false }]
def Sh.entss : (l : List Sh) → Sh.Ts l → List Ent
  | [], _ => []
  | s :: l, x => Sh.ents s x.1 ++ Sh.entss l x.2
end
mutual
/-- How many of them. -/
def Sh.ne : Sh → Nat
  | .int _ => 0
  | .bool => 0
  | .str => 0
  | .st l => Sh.nes l
  | .sl _ => 1
  | .rows _ => 1
def Sh.nes : List Sh → Nat
  | [] => 0
  | s :: l => Sh.ne s + Sh.nes l
end
mutual
/-- Its cells, the blocks being numbered from n on. -/
def Sh.cells : (s : Sh) → s.T → Nat → List AV
  | .int k, x, _ => [.val (.int k x)]
  | .bool, b, _ => [.val (.bool b)]
  | .str, s, _ => [.val (.string s)]
  | .st l, x, n => Sh.cellss l x n
  | .sl _, l, n => [.slc n 0 l.length .low]
  | .rows _, l, n => [.slc n 0 l.length .low]
def Sh.cellss : (l : List Sh) → Sh.Ts l → Nat → List AV
  | [], _, _ => []
  | s :: l, x, n => Sh.cells s x.1 n ++ Sh.cellss l x.2 (n + Sh.ne s)
end
mutual
theorem ents_length : ∀ (s : Sh) (x : s.T), (s.ents x).length = s.ne
  | .int _, _ => rfl
  | .bool, _ => rfl
  | .str, _ => rfl
  | .st l, x => by simpa [Sh.ents, Sh.ne] using entss_length l x
  | .sl _, _ => rfl
  | .rows _, _ => rfl
theorem entss_length : ∀ (l : List Sh) (x : Sh.Ts l), (Sh.entss l x).length = Sh.nes l
  | [], _ => rfl
  | s :: l, x => by simp [Sh.entss, Sh.nes, ents_length s x.1, entss_length l x.2]
end

mutual
theorem ents_live : ∀ (s : Sh) (y : s.T) (e : Ent), e ∈ s.ents y → ∃ blk : Blk, e = .live blk ∧ blk.rw = false ∧ (∀ l, blk.cells ≠ .lit l)
  | .int _, _, e, h => by simp [Sh.ents] at h
  | .bool, _, e, h => by simp [Sh.ents] at h
  | .str, _, e, h => by simp [Sh.ents] at h
  | .st l, y, e, h => entss_live l y e (by simpa [Sh.ents] using h)
  | .sl _, y, e, h => by simp [Sh.ents] at h; subst h; exact ⟨_, rfl, rfl, by simp⟩
  | .rows _, y, e, h => by simp [Sh.ents] at h; subst h; exact ⟨_, rfl, rfl, by simp⟩
theorem entss_live : ∀ (l : List Sh) (y : Sh.Ts l) (e : Ent), e ∈ Sh.entss l y → ∃ blk : Blk, e = .live blk ∧ blk.rw = false ∧ (∀ l, blk.cells ≠ .lit l)
  | [], _, e, h => by simp [Sh.entss] at h
  | s :: l, y, e, h => by
    simp only [Sh.entss, List.mem_append] at h
    rcases h with h | h
    · exact ents_live s y.1 e h
    · exact entss_live l y.2 e h
end

/-- An argument. -/
def Sh.arg : (s : Sh) → s.T → Nat → AV
  | .int k, x, _ => .val (.int k x)
  | .bool, b, _ => .val (.bool b)
  | .str, s, _ => .val (.string s)
  | .st l, x, n => .agg (Sh.cellss l x n)
  | .sl _, l, n => .slc n 0 l.length .low
  | .rows _, l, n => .slc n 0 l.length .low
def Sh.args : (l : List Sh) → Sh.Ts l → Nat → List AV
  | [], _, _ => []
  | s :: l, x, n => s.arg x.1 n :: Sh.args l x.2 (n + s.ne)
end Go.Ab
/-
  CORE 17: abstract values seen as values of a shape (to hand them to a function that only reads them).
-/
set_option linter.unusedVariables false
set_option linter.unusedSimpArgs false
namespace Go.Ab

/-- So many parts of a shape from an offset on, and on which condition. -/
def partsOf (s : Sh) (cp : Cap) (cs : Cells) (o n : Nat) : Option (List s.T × Bool) :=
  if s.flat = true ∧ 0 < s.w then
    match cs with
    | .arr s' l => match Sh.same s' s with
      | some h => (match cp with
        | .part => (if s.w = 1 then some (cut (h.down ▸ l) o n, decide (o + n ≤ l.length)) else match o with
          | 0 => some (cut (h.down ▸ l) 0 n, decide (n ≤ l.length))
          | _ + 1 => none)
        | _ => (match o with
          | 0 => some (h.down ▸ l, decide (n = l.length))
          | _ + 1 => (match eltAt s.w o 0 with
            | some k => some (cut (h.down ▸ l) k n, decide (k + n ≤ l.length))
            | none => none)))
      | none => none
    | .lit l => (match decN s n (l.drop o) with
      | some y => some (y, true)
      | none => none)
    | _ => none
  else none

theorem partsOf_ok {cp : Cap} {ρ : Ren} {w : World} {cb co : Nat} {cs : Cells} (hc : CellsAt ρ w cb co cs) {s : Sh} {o n : Nat} {y : List s.T} {c : Bool} (h : partsOf s cp cs o n = some (y, c)) (hb : c = true) :
    y.length = n ∧ s.flat = true ∧ 0 < s.w ∧ ∀ (j : Nat) (v : Value), (s.flatl y)[j]? = some v → w.cell? ⟨cb, co + o + j, none⟩ = some v := by
  unfold partsOf at h
  split at h
  case isFalse => cases h
  rename_i hfw
  obtain ⟨hf, hw⟩ := hfw
  split at h
  · rename_i s' l
    split at h
    case h_2 => cases h
    rename_i hs _
    obtain ⟨hs⟩ := hs
    subst hs
    split at h
    · split at h
      · rename_i hw1
        injection h with h; injection h with h1 h2; subst h1; subst h2
        have hb : o + n ≤ l.length := by simpa using hb
        refine ⟨cut_length hb, hf, hw, fun j v hj => ?_⟩
        have h3 := flatl_take_get _ _ hj
        rw [flatl_drop hf, List.getElem?_drop, hw1, Nat.mul_one] at h3
        rw [Nat.add_assoc]; exact hc _ _ h3
      · split at h
        case h_2 => cases h
        injection h with h; injection h with h1 h2; subst h1; subst h2
        have hb : 0 + n ≤ l.length := by simpa using hb
        refine ⟨cut_length hb, hf, hw, fun j v hj => ?_⟩
        have h3 := flatl_take_get _ _ hj
        rw [flatl_drop hf, List.getElem?_drop, Nat.zero_mul, Nat.zero_add] at h3
        rw [Nat.add_zero]; exact hc _ _ h3
    split at h
    · injection h with h; injection h with h1 h2; subst h1; subst h2
      have hb : n = l.length := by simpa using hb
      exact ⟨hb.symm, hf, hw, fun j v hj => by rw [Nat.add_zero]; exact hc j v hj⟩
    rename_i o'
    split at h
    case h_2 => cases h
    rename_i k hk
    injection h with h; injection h with h1 h2; subst h1; subst h2
    have hb : k + n ≤ l.length := by simpa using hb
    obtain ⟨hk1, _⟩ := eltAt_some hk
    refine ⟨cut_length hb, hf, hw, fun j v hj => ?_⟩
    have h3 := flatl_take_get _ _ hj
    rw [flatl_drop hf, List.getElem?_drop] at h3
    have := hc _ _ h3
    rw [show co + (o' + 1) + j = co + (k * s'.w + j) by omega]; exact this
  · rename_i l
    split at h
    case h_2 => cases h
    rename_i y' hy
    injection h with h; injection h with h1 h2; subst h1
    obtain ⟨h3, r, h4⟩ := decN_ok n _ _ hy
    refine ⟨h3, hf, hw, fun j v hj => ?_⟩
    have h5 : l[o + j]? = some (.val v) := by
      have : (l.drop o)[j]? = some (.val v) := by
        rw [h4, List.getElem?_append_left (by simp; exact (List.getElem?_eq_some_iff.1 hj).1)]
        simp [hj]
      rwa [List.getElem?_drop] at this
    obtain ⟨cv, h6, h7⟩ := hc _ _ h5
    simp only [VR] at h7; subst h7
    rw [Nat.add_assoc]; exact h6
  · cases h

theorem partsOf_len {cp : Cap} {s : Sh} {cs : Cells} {o n : Nat} {y : List s.T} {c : Bool} (h : partsOf s cp cs o n = some (y, c)) (hl : 0 < (s.flatl y).length) : 0 < cs.len := by
  unfold partsOf at h
  split at h
  case isFalse => cases h
  rename_i hfw
  split at h
  · rename_i s' l
    split at h
    case h_2 => cases h
    rename_i hs _
    obtain ⟨hs⟩ := hs
    subst hs
    have key : ∀ k, 0 < (s'.flatl (cut l k n)).length → 0 < (s'.flatl l).length := fun k hl => by
      have h3 : (s'.flatl (cut l k n)).length ≠ 0 := Nat.pos_iff_ne_zero.1 hl
      rw [flatl_length s' hfw.1] at h3
      have h4 : (cut l k n).length ≠ 0 := fun e => h3 (by rw [e]; simp)
      have h5 : l.length ≠ 0 := fun e => h4 (by simp [cut, List.length_eq_zero_iff.1 e])
      rw [flatl_length s' hfw.1]
      exact Nat.mul_pos (by omega) hfw.2
    split at h
    · split at h
      · injection h with h; injection h with h1 h2; subst h1; exact key _ hl
      · split at h
        case h_2 => cases h
        injection h with h; injection h with h1 h2; subst h1; exact key _ hl
    split at h
    · injection h with h; injection h with h1 h2; subst h1; exact hl
    · split at h
      case h_2 => cases h
      rename_i k hk
      injection h with h; injection h with h1 h2; subst h1
      have h3 : (s'.flatl (cut l k n)).length ≠ 0 := Nat.pos_iff_ne_zero.1 hl
      rw [flatl_length s' hfw.1] at h3
      have h4 : (cut l k n).length ≠ 0 := fun e => h3 (by rw [e]; simp)
      have h5 : l.length ≠ 0 := fun e => h4 (by simp [cut, List.length_eq_zero_iff.1 e])
      show 0 < (s'.flatl l).length
      rw [flatl_length s' hfw.1]
      exact Nat.mul_pos (by omega) hfw.2
  · rename_i l
    split at h
    case h_2 => cases h
    rename_i y' hy
    injection h with h; injection h with h1 h2; subst h1
    obtain ⟨h3, r, h4⟩ := decN_ok n _ _ hy
    have := congrArg List.length h4
    simp at this
    show 0 < l.length
    omega
  · cases h
/-! ### seen -/
def viewSl (H : Nat → Ent) (e : Sh) : AV → Option (List e.T × List Nat × Bool)
  | .slc b o n cp => match H b with
    | .live blk => (match partsOf e cp blk.cells o n with
      | some (y, c) => some (y, [b], c)
      | none => none)
    | _ => none
  | .val (.slice none 0 0) => some ([], [], true)
  | _ => none
def viewRw (H : Nat → Ent) (e : Sh) : AV → Option (List (List e.T) × List Nat × Bool)
  | .slc b o n _ => if e.flat = true ∧ e.w = 1 then (match H b with
    | .live blk => (match blk.cells with
      | .arrs e' l => (match Sh.same e' e with
        | some h => (match o with
          | 0 => some (h.down ▸ l, [b], decide (n = l.length))
          | o' + 1 => some (cut (h.down ▸ l) (o' + 1) n, [b], decide (o' + 1 + n ≤ l.length)))
        | none => none)
      | _ => none)
    | _ => none) else none
  | .val (.slice none 0 0) => if e.flat = true ∧ e.w = 1 then some ([], [], true) else none
  | _ => none
mutual
def viewC (H : Nat → Ent) : (s : Sh) → List AV → Option (s.T × List Nat × Bool × List AV)
  | .int k, cs => (match Sh.dec (.int k) cs with
    | some (y, r) => some (y, [], true, r)
    | none => none)
  | .bool, cs => (match Sh.dec .bool cs with
    | some (y, r) => some (y, [], true, r)
    | none => none)
  | .str, cs => (match Sh.dec .str cs with
    | some (y, r) => some (y, [], true, r)
    | none => none)
  | .st l, cs => viewCs H l cs
  | .sl e, a :: r => (match viewSl H e a with
    | some (y, b, c) => some (y, b, c, r)
    | none => none)
  | .rows e, a :: r => (match viewRw H e a with
    | some (y, b, c) => some (y, b, c, r)
    | none => none)
  | _, _ => none
def viewCs (H : Nat → Ent) : (l : List Sh) → List AV → Option (Sh.Ts l × List Nat × Bool × List AV)
  | [], cs => some ((), [], true, cs)
  | s :: l, cs => match viewC H s cs with
    | some (y, b, c, r) => (match viewCs H l r with
      | some (z, b', c', r') => some ((y, z), b ++ b', c && c', r')
      | none => none)
    | none => none
end

/-- A place that belongs to one of the blocks told. -/
def From (ρ0 : Ren) (h : Heap) (Q : Nat → Prop) (cb : Nat) : Prop := ∃ b blk c, Q b ∧ h.get b = .live blk ∧ ρ0 b = some c ∧ blk.solid c ∧ c.1 = cb
/-- In this world the values are a value of the shape. -/
def Views (w B : World) (F : Nat → Prop) (s : Sh) (y : s.T) (cs : List Value) : Prop :=
  ∃ c : List (Nat × Nat × Nat), c.length = s.ne ∧ ∀ (ρ : Ren) (next : Nat), ρ.base = B → (∀ (i : Nat) (d : Nat × Nat × Nat), c[i]? = some d → ρ (next + i) = some d) →
    VRs ρ (s.cells y next) cs ∧ ∀ (i : Nat) (blk : Blk), (s.ents y)[i]? = some (.live blk) → ∃ d : Nat × Nat × Nat, c[i]? = some d ∧ CellsAt ρ w d.1 d.2.1 blk.cells ∧ (0 < blk.cells.len → F d.1)
def ViewsL (w B : World) (F : Nat → Prop) (l : List Sh) (y : Sh.Ts l) (cs : List Value) : Prop :=
  ∃ c : List (Nat × Nat × Nat), c.length = Sh.nes l ∧ ∀ (ρ : Ren) (next : Nat), ρ.base = B → (∀ (i : Nat) (d : Nat × Nat × Nat), c[i]? = some d → ρ (next + i) = some d) →
    VRs ρ (Sh.cellss l y next) cs ∧ ∀ (i : Nat) (blk : Blk), (Sh.entss l y)[i]? = some (.live blk) → ∃ d : Nat × Nat × Nat, c[i]? = some d ∧ CellsAt ρ w d.1 d.2.1 blk.cells ∧ (0 < blk.cells.len → F d.1)

theorem ViewsL.nil {w B : World} {F : Nat → Prop} : ViewsL w B F [] () [] := ⟨[], rfl, fun ρ next _ _ => ⟨by simp [Sh.cellss, VRs], fun i blk h => by simp [Sh.entss] at h⟩⟩
theorem ViewsL.cons {w B : World} {F : Nat → Prop} {s : Sh} {l : List Sh} {y : s.T} {z : Sh.Ts l} {c1 c2 : List Value} (h1 : Views w B F s y c1) (h2 : ViewsL w B F l z c2) : ViewsL w B F (s :: l) (y, z) (c1 ++ c2) := by
  obtain ⟨d1, l1, f1⟩ := h1
  obtain ⟨d2, l2, f2⟩ := h2
  refine ⟨d1 ++ d2, by simp [Sh.nes, l1, l2], fun ρ next hb hρ => ?_⟩
  obtain ⟨a1, a2⟩ := f1 ρ next hb fun i d hi => hρ i d (by rw [List.getElem?_append_left]; exact hi; exact (List.getElem?_eq_some_iff.1 hi).1)
  obtain ⟨b1, b2⟩ := f2 ρ (next + s.ne) hb fun i d hi => by
    have := hρ (s.ne + i) d (by rw [List.getElem?_append_right (by omega), l1, Nat.add_sub_cancel_left]; exact hi)
    rw [Nat.add_assoc]; exact this
  refine ⟨by simp only [Sh.cellss]; exact a1.append b1, fun i blk hi => ?_⟩
  simp only [Sh.entss] at hi
  have el := ents_length s y
  by_cases hil : i < s.ne
  · rw [List.getElem?_append_left (by omega)] at hi
    obtain ⟨d, h3, h4⟩ := a2 i blk hi
    exact ⟨d, by rw [List.getElem?_append_left (by omega)]; exact h3, h4⟩
  · rw [List.getElem?_append_right (by omega), el] at hi
    obtain ⟨d, h3, h4⟩ := b2 (i - s.ne) blk hi
    exact ⟨d, by rw [List.getElem?_append_right (by omega), l1]; exact h3, h4⟩

section
variable {ρ0 : Ren} {h : Heap} {w : World} {H : Nat → Ent} {Q : Nat → Prop}

/-- A slice, seen: nothing, or there it lies. -/
theorem viewSl_ok (hs : Sim ρ0 h w) {e : Sh} {a : AV} {cv : Value} (hv : VR ρ0 a cv) {y : List e.T} {bs : List Nat} {c : Bool} (hvw : viewSl H e a = some (y, bs, c)) (hH : ∀ b ∈ bs, h.get b = H b) (hQ : ∀ b ∈ bs, Q b) (hc : c = true) :
    (∃ b o c', cv = .slice (some ⟨b, o, none⟩) y.length c' ∧ y.length ≤ c' ∧ (∀ (j : Nat) (v : Value), (e.flatl y)[j]? = some v → w.cell? ⟨b, o + j, none⟩ = some v) ∧ (0 < (e.flatl y).length → From ρ0 h Q b)) ∨ (y = [] ∧ ∃ a, cv = .slice a 0 0) := by
  unfold viewSl at hvw
  split at hvw
  · rename_i b o n cp
    split at hvw
    case h_2 => cases hvw
    rename_i blk hblk
    split at hvw
    case h_2 => cases hvw
    rename_i y' c' hp
    injection hvw with hvw; injection hvw with e1 e2; injection e2 with e2 e3
    subst e1; subst e2; subst e3
    have hb : h.get b = .live blk := by rw [hH b (by simp)]; exact hblk
    rcases hv.slc_cases with ⟨cb, co, cc, c', h1, h2, h3⟩ | ⟨h1, a, h2⟩
    · obtain ⟨k1, _, _, k2⟩ := partsOf_ok (hs.cells b blk _ hb h1) hp hc
      refine .inl ⟨cb, co + o, c', by rw [k1]; exact h3, by omega, k2, fun hl => ⟨b, blk, _, hQ b (by simp), hb, h1, .inl (partsOf_len hp hl), rfl⟩⟩
    · obtain ⟨d, hd⟩ := hs.some_ b blk hb
      obtain ⟨k1, _, _, k2⟩ := partsOf_ok (hs.cells b blk _ hb hd) hp hc
      exact .inr ⟨List.length_eq_zero_iff.1 (by omega), a, h2⟩
  · simp only [VR] at hv
    injection hvw with hvw; injection hvw with e1 e2; subst e1
    exact .inr ⟨rfl, none, hv⟩
  · cases hvw

theorem RowIn.of_base (hs : Sim ρ0 h w) {cv : Value} {r : List Value} (hr : RowIn ρ0.base cv r) : RowIn w cv r := by
  rcases hr with hr | ⟨b, o, c, h1, h2, h3⟩
  · exact .inl hr
  · refine .inr ⟨b, o, c, h1, h2, fun j v hj => ?_⟩
    have h4 := h3 j v hj
    have hlt : b < ρ0.base.heap.size := by
      rcases Nat.lt_or_ge b ρ0.base.heap.size with h' | h'
      · exact h'
      · simp [World.cell?, Array.getElem?_eq_none h'] at h4
    rw [← h4]
    simp [World.cell?, hs.old b hlt]

theorem Views.flat0 {s : Sh} {cs : List Value} {y : s.T} (hn : s.ne = 0) (hv : ∀ (ρ : Ren) next, VRs ρ (s.cells y next) cs) : Views w ρ0.base (From ρ0 h Q) s y cs :=
  ⟨[], hn.symm, fun ρ next _ _ => ⟨hv ρ next, fun i blk hi => by
    have := ents_length s y
    rw [hn] at this
    rw [List.length_eq_zero_iff.1 this] at hi
    simp at hi⟩⟩

theorem VRs.split {ρ : Ren} : ∀ (as bs : List AV) (vs : List Value), VRs ρ (as ++ bs) vs → ∃ v1 v2, vs = v1 ++ v2 ∧ VRs ρ as v1 ∧ VRs ρ bs v2
  | [], bs, vs, h => ⟨[], vs, rfl, by simp [VRs], h⟩
  | a :: as, bs, [], h => by simp [VRs] at h
  | a :: as, bs, v :: vs, h => by
    simp only [List.cons_append, VRs] at h
    obtain ⟨v1, v2, rfl, h1, h2⟩ := VRs.split as bs vs h.2
    exact ⟨v :: v1, v2, rfl, by simp only [VRs]; exact ⟨h.1, h1⟩, h2⟩

theorem enc_view {s : Sh} {y : s.T} {vs : List Value} (hv : VRs ρ0 ((s.enc y).map .val) vs) : vs = s.enc y := by
  have key : ∀ (l u : List Value), VRs ρ0 (l.map .val) u → u = l := by
    intro l
    induction l with
    | nil => intro u h; cases u with
      | nil => rfl
      | cons => simp [VRs] at h
    | cons a l ih => intro u h; cases u with
      | nil => simp [VRs] at h
      | cons b u => simp only [List.map_cons, VRs, VR] at h; rw [h.1, ih u h.2]
  exact key _ _ hv

mutual
theorem viewC_ok (hs : Sim ρ0 h w) : ∀ (s : Sh) (cs : List AV) (cvs : List Value), VRs ρ0 cs cvs → ∀ (y : s.T) (bs : List Nat) (c : Bool) (rest : List AV), viewC H s cs = some (y, bs, c, rest) → (∀ b ∈ bs, h.get b = H b) → (∀ b ∈ bs, Q b) → c = true →
    ∃ v1 v2, cvs = v1 ++ v2 ∧ VRs ρ0 rest v2 ∧ Views w ρ0.base (From ρ0 h Q) s y v1
  | .int k, cs, cvs, hv, y, bs, c, rest, hvw, hH, hQ, hc => by
    simp only [viewC] at hvw
    split at hvw
    case h_2 => cases hvw
    rename_i y' r hd
    injection hvw with hvw; injection hvw with e1 e2; injection e2 with e2 e3; injection e3 with e3 e4
    subst e1; subst e4
    obtain ⟨v1, v2, g1, g2, g3⟩ := VRs.split _ _ _ ((dec_ok _ _ _ _ hd).2 ▸ hv)
    exact ⟨v1, v2, g1, g3, .flat0 rfl fun ρ next => by rw [enc_view g2]; simp [Sh.cells, Sh.enc, VRs, VR]⟩
  | .bool, cs, cvs, hv, y, bs, c, rest, hvw, hH, hQ, hc => by
    simp only [viewC] at hvw
    split at hvw
    case h_2 => cases hvw
    rename_i y' r hd
    injection hvw with hvw; injection hvw with e1 e2; injection e2 with e2 e3; injection e3 with e3 e4
    subst e1; subst e4
    obtain ⟨v1, v2, g1, g2, g3⟩ := VRs.split _ _ _ ((dec_ok _ _ _ _ hd).2 ▸ hv)
    exact ⟨v1, v2, g1, g3, .flat0 rfl fun ρ next => by rw [enc_view g2]; simp [Sh.cells, Sh.enc, VRs, VR]⟩
  | .str, cs, cvs, hv, y, bs, c, rest, hvw, hH, hQ, hc => by
    simp only [viewC] at hvw
    split at hvw
    case h_2 => cases hvw
    rename_i y' r hd
    injection hvw with hvw; injection hvw with e1 e2; injection e2 with e2 e3; injection e3 with e3 e4
    subst e1; subst e4
    obtain ⟨v1, v2, g1, g2, g3⟩ := VRs.split _ _ _ ((dec_ok _ _ _ _ hd).2 ▸ hv)
    exact ⟨v1, v2, g1, g3, .flat0 rfl fun ρ next => by rw [enc_view g2]; simp [Sh.cells, Sh.enc, VRs, VR]⟩
  | .st l, cs, cvs, hv, y, bs, c, rest, hvw, hH, hQ, hc => by
    simp only [viewC] at hvw
    obtain ⟨v1, v2, g1, g2, g3⟩ := viewCs_ok hs l cs cvs hv y bs c rest hvw hH hQ hc
    exact ⟨v1, v2, g1, g2, g3⟩
  | .sl e, [], cvs, hv, y, bs, c, rest, hvw, hH, hQ, hc => by simp [viewC] at hvw
  | .sl e, a :: r, [], hv, y, bs, c, rest, hvw, hH, hQ, hc => by simp [VRs] at hv
  | .sl e, a :: r, cv :: cvs, hv, y, bs, c, rest, hvw, hH, hQ, hc => by
    simp only [VRs] at hv
    simp only [viewC] at hvw
    split at hvw
    case h_2 => cases hvw
    rename_i y' b' c' hsl
    injection hvw with hvw; injection hvw with e1 e2; injection e2 with e2 e3; injection e3 with e3 e4
    subst e1; subst e2; subst e3; subst e4
    refine ⟨[cv], cvs, rfl, hv.2, ?_⟩
    rcases viewSl_ok hs hv.1 hsl hH hQ hc with ⟨b, o, c', h2, h3, h4, h5⟩ | ⟨h2, a, h3⟩
    · refine ⟨[(b, o, 0)], rfl, fun ρ next hb hρ => ⟨?_, fun i blk hi => ?_⟩⟩
      · simp only [Sh.cells, VRs, VR]
        exact ⟨.inl ⟨b, o, 0, c', by simpa using hρ 0 _ rfl, h3, h2⟩, trivial⟩
      · simp only [Sh.ents] at hi
        cases i with
        | succ i => simp at hi
        | zero =>
          simp at hi; subst hi
          exact ⟨(b, o, 0), rfl, h4, h5⟩
    · subst h2
      refine ⟨[(0, 0, 0)], rfl, fun ρ next hb hρ => ⟨?_, fun i blk hi => ?_⟩⟩
      · simp only [Sh.cells, VRs, VR]
        exact ⟨.inr ⟨rfl, a, h3⟩, trivial⟩
      · simp only [Sh.ents] at hi
        cases i with
        | succ i => simp at hi
        | zero =>
          simp at hi; subst hi
          exact ⟨(0, 0, 0), rfl, fun j v hj => by simp [Sh.flatl] at hj, fun hl => by simp [Cells.len, Sh.flatl] at hl⟩
  | .rows e, [], cvs, hv, y, bs, c, rest, hvw, hH, hQ, hc => by simp [viewC] at hvw
  | .rows e, a :: r, [], hv, y, bs, c, rest, hvw, hH, hQ, hc => by simp [VRs] at hv
  | .rows e, a :: r, cv :: cvs, hv, y, bs, c, rest, hvw, hH, hQ, hc => by
    simp only [VRs] at hv
    simp only [viewC] at hvw
    split at hvw
    case h_2 => cases hvw
    rename_i y' b' c' hrw
    injection hvw with hvw; injection hvw with e1 e2; injection e2 with e2 e3; injection e3 with e3 e4
    subst e1; subst e2; subst e3; subst e4
    refine ⟨[cv], cvs, rfl, hv.2, ?_⟩
    have nilcase : y' = [] → (∃ a, cv = .slice a 0 0) → Views w ρ0.base (From ρ0 h Q) (.rows e) y' [cv] := by
      rintro rfl ⟨a, h3⟩
      refine ⟨[(0, 0, 0)], rfl, fun ρ next hb hρ => ⟨?_, fun i blk hi => ?_⟩⟩
      · simp only [Sh.cells, VRs, VR]
        exact ⟨.inr ⟨rfl, a, h3⟩, trivial⟩
      · simp only [Sh.ents] at hi
        cases i with
        | succ i => simp at hi
        | zero =>
          simp at hi; subst hi
          exact ⟨(0, 0, 0), rfl, fun j v hj => by simp at hj, fun hl => by simp [Cells.len] at hl⟩
    have somecase : ∀ cb o c', cv = .slice (some ⟨cb, o, none⟩) y'.length c' → y'.length ≤ c' → (∀ (j : Nat) (r : List e.T), y'[j]? = some r → ∃ cv, w.cell? ⟨cb, o + j, none⟩ = some cv ∧ RowIn ρ0.base cv (e.flatl r)) → (0 < y'.length → From ρ0 h Q cb) → Views w ρ0.base (From ρ0 h Q) (.rows e) y' [cv] := by
      intro cb o c' h2 h3 h4 h9
      refine ⟨[(cb, o, 0)], rfl, fun ρ next hb hρ => ⟨?_, fun i blk hi => ?_⟩⟩
      · simp only [Sh.cells, VRs, VR]
        exact ⟨.inl ⟨cb, o, 0, c', by simpa using hρ 0 _ rfl, h3, h2⟩, trivial⟩
      · simp only [Sh.ents] at hi
        cases i with
        | succ i => simp at hi
        | zero =>
          simp at hi; subst hi
          refine ⟨(cb, o, 0), rfl, fun j r hj => ?_, h9⟩
          obtain ⟨u, h5, h6⟩ := h4 j r hj
          exact ⟨u, h5, by rw [hb]; exact h6⟩
    unfold viewRw at hrw
    split at hrw
    · rename_i b o n cp
      split at hrw
      case isFalse => cases hrw
      rename_i hfw
      split at hrw
      case h_2 => cases hrw
      rename_i blk hblk
      split at hrw
      · rename_i e' l hcells
        split at hrw
        case h_2 => cases hrw
        rename_i hse _
        obtain ⟨hse⟩ := hse
        subst hse
        have two : ∃ y0, (o = 0 ∧ y0 = l ∧ n = l.length ∧ y' = y0 ∧ b' = [b]) ∨ (o + n ≤ l.length ∧ y' = cut l o n ∧ b' = [b]) := by
          split at hrw
          · injection hrw with hrw; injection hrw with e1 e2; injection e2 with e2 e3
            exact ⟨l, .inl ⟨rfl, rfl, by subst e3; simpa using hc, e1.symm, e2.symm⟩⟩
          · injection hrw with hrw; injection hrw with e1 e2; injection e2 with e2 e3
            exact ⟨l, .inr ⟨by subst e3; simpa using hc, e1.symm, e2.symm⟩⟩
        obtain ⟨hc, rfl, rfl⟩ : o + n ≤ l.length ∧ y' = cut l o n ∧ b' = [b] := by
          obtain ⟨y0, ⟨k1, k2, k3, k4, k5⟩ | k⟩ := two
          · subst k1; subst k2; subst k3; exact ⟨by omega, by rw [k4, cut_all], k5⟩
          · exact k
        have hb : h.get b = .live blk := by rw [hH b (by simp)]; exact hblk
        have hlen := cut_length hc
        rcases hv.1.slc_cases with ⟨cb, co, cc, c', h1, h2, h3⟩ | ⟨h1, a, h2⟩
        · refine somecase cb (co + o) c' (by rw [hlen]; exact h3) (by rw [hlen]; exact h2) (fun j r hj => ?_) fun hl => ⟨b, blk, _, hQ b (by simp), hb, h1, .inl (by rw [hcells]; show 0 < l.length; have := hl; rw [hlen] at this; omega), rfl⟩
          have hca := hs.cells b blk _ hb h1
          rw [hcells] at hca
          have hj2 : l[o + j]? = some r := by
            simp only [cut, List.getElem?_take] at hj
            split at hj
            · rwa [List.getElem?_drop] at hj
            · cases hj
          obtain ⟨u, h5, h6⟩ := hca _ r hj2
          exact ⟨u, by rw [Nat.add_assoc]; exact h5, h6⟩
        · exact nilcase (List.length_eq_zero_iff.1 (by rw [hlen]; exact h1)) ⟨a, h2⟩
      · cases hrw
    · simp only [VR] at hv
      split at hrw
      case isFalse => cases hrw
      injection hrw with hrw; injection hrw with e1 e2; subst e1
      exact nilcase rfl ⟨none, hv.1⟩
    · cases hrw
theorem viewCs_ok (hs : Sim ρ0 h w) : ∀ (l : List Sh) (cs : List AV) (cvs : List Value), VRs ρ0 cs cvs → ∀ (y : Sh.Ts l) (bs : List Nat) (c : Bool) (rest : List AV), viewCs H l cs = some (y, bs, c, rest) → (∀ b ∈ bs, h.get b = H b) → (∀ b ∈ bs, Q b) → c = true →
    ∃ v1 v2, cvs = v1 ++ v2 ∧ VRs ρ0 rest v2 ∧ ViewsL w ρ0.base (From ρ0 h Q) l y v1
  | [], cs, cvs, hv, y, bs, c, rest, hvw, hH, hQ, hc => by
    simp only [viewCs] at hvw
    injection hvw with hvw; injection hvw with e1 e2; injection e2 with e2 e3; injection e3 with e3 e4
    subst e4
    exact ⟨[], cvs, rfl, hv, .nil⟩
  | s :: l, cs, cvs, hv, y, bs, c, rest, hvw, hH, hQ, hc => by
    simp only [viewCs] at hvw
    split at hvw
    case h_2 => cases hvw
    rename_i y0 b0 c0 r0 h0
    split at hvw
    case h_2 => cases hvw
    rename_i z b1 c1 r1 h1
    injection hvw with hvw; injection hvw with e1 e2; injection e2 with e2 e3; injection e3 with e3 e4
    subst e1; subst e2; subst e3; subst e4
    simp only [Bool.and_eq_true] at hc
    obtain ⟨v1, v2, rfl, g2, g3⟩ := viewC_ok hs s cs cvs hv y0 b0 c0 r0 h0 (fun b hb => hH b (List.mem_append.2 (.inl hb))) (fun b hb => hQ b (List.mem_append.2 (.inl hb))) hc.1
    obtain ⟨v3, v4, rfl, g4, g5⟩ := viewCs_ok hs l r0 v2 g2 z b1 c1 r1 h1 (fun b hb => hH b (List.mem_append.2 (.inr hb))) (fun b hb => hQ b (List.mem_append.2 (.inr hb))) hc.2
    exact ⟨v1 ++ v3, v4, by simp, g4, ViewsL.cons g3 g5⟩
end
end

end Go.Ab
/-
  CORE 18: a call of a function that only reads.
-/
set_option linter.unusedVariables false
set_option linter.unusedSimpArgs false
namespace Go.Ab

/-! ### arguments, seen -/
def argCells : Sh → AV → Option (List AV)
  | .st _, .agg cs => some cs
  | .st _, .val (.agg cs) => some (cs.toList.map .val)
  | .st _, _ => none
  | _, a => some [a]
def viewA (H : Nat → Ent) (s : Sh) (a : AV) : Option (s.T × List Nat × Bool) :=
  match argCells s a with
  | some cs => (match viewC H s cs with
    | some (y, b, c, []) => some (y, b, c)
    | _ => none)
  | none => none
def viewArgs (H : Nat → Ent) : (l : List Sh) → List AV → Option (Sh.Ts l × List Nat × Bool)
  | [], [] => some ((), [], true)
  | s :: l, a :: as => (match viewA H s a with
    | some (y, b, c) => (match viewArgs H l as with
      | some (z, b', c') => some ((y, z), b ++ b', c && c')
      | none => none)
    | none => none)
  | _, _ => none

def ViewsA (w B : World) (F : Nat → Prop) (l : List Sh) (y : Sh.Ts l) (vs : List Value) : Prop :=
  ∃ c : List (Nat × Nat × Nat), c.length = Sh.nes l ∧ ∀ (ρ : Ren) (next : Nat), ρ.base = B → (∀ (i : Nat) (d : Nat × Nat × Nat), c[i]? = some d → ρ (next + i) = some d) →
    VRs ρ (Sh.args l y next) vs ∧ ∀ (i : Nat) (blk : Blk), (Sh.entss l y)[i]? = some (.live blk) → ∃ d : Nat × Nat × Nat, c[i]? = some d ∧ CellsAt ρ w d.1 d.2.1 blk.cells ∧ (0 < blk.cells.len → F d.1)

theorem viewA_ok {ρ0 : Ren} {h : Heap} {w : World} {H : Nat → Ent} {Q : Nat → Prop} (hs : Sim ρ0 h w) {s : Sh} {a : AV} {v : Value} (hv : VR ρ0 a v) {y : s.T} {bs : List Nat} {c : Bool} (hvw : viewA H s a = some (y, bs, c)) (hH : ∀ b ∈ bs, h.get b = H b) (hQ : ∀ b ∈ bs, Q b) (hc : c = true) :
    ∃ cs, Views w ρ0.base (From ρ0 h Q) s y cs ∧ ∀ (ρ : Ren) next, VRs ρ (s.cells y next) cs → VR ρ (s.arg y next) v := by
  unfold viewA at hvw
  split at hvw
  case h_2 => cases hvw
  rename_i cs hcs
  split at hvw
  case h_2 => cases hvw
  rename_i y' b' c' hvc
  injection hvw with hvw; injection hvw with e1 e2; injection e2 with e2 e3
  subst e1; subst e2; subst e3
  have one : argCells s a = some [a] → (∀ next, s.cells y' next = [s.arg y' next]) → ∃ cs, Views w ρ0.base (From ρ0 h Q) s y' cs ∧ ∀ (ρ : Ren) next, VRs ρ (s.cells y' next) cs → VR ρ (s.arg y' next) v := by
    intro h1 h2
    rw [h1] at hcs; injection hcs with hcs; subst hcs
    obtain ⟨v1, v2, g1, g2, g3⟩ := viewC_ok hs s [a] [v] (by simp only [VRs]; exact ⟨hv, trivial⟩) y' b' c' [] hvc hH hQ hc
    have : v2 = [] := by
      cases v2 with
      | nil => rfl
      | cons => simp [VRs] at g2
    subst this
    simp at g1; subst g1
    refine ⟨[v], g3, fun ρ next hr => ?_⟩
    rw [h2] at hr
    simpa [VRs] using hr
  cases s with
  | int k => exact one rfl fun _ => rfl
  | bool => exact one rfl fun _ => rfl
  | str => exact one rfl fun _ => rfl
  | sl e => exact one rfl fun _ => rfl
  | rows e => exact one rfl fun _ => rfl
  | st l =>
    have hag : ∃ us, v = .agg us ∧ VRs ρ0 cs us.toList := by
      unfold argCells at hcs
      split at hcs
      · rename_i e; injection e with e; subst e
        injection hcs with hcs; subst hcs
        simp only [VR] at hv; exact hv
      · rename_i e; injection e with e; subst e
        injection hcs with hcs; subst hcs
        simp only [VR] at hv; exact ⟨_, hv, VRs.vals _⟩
      · cases hcs
      · exfalso; simp_all
    obtain ⟨us, hu, hr⟩ := hag
    obtain ⟨v1, v2, g1, g2, g3⟩ := viewC_ok hs (.st l) cs us.toList hr y' b' c' [] hvc hH hQ hc
    have : v2 = [] := by
      cases v2 with
      | nil => rfl
      | cons => simp [VRs] at g2
    subst this
    simp at g1
    refine ⟨v1, g3, fun ρ next hr => ?_⟩
    simp only [Sh.arg, VR]
    exact ⟨us, hu, by rw [g1]; simpa [Sh.cells] using hr⟩

theorem viewArgs_ok {ρ0 : Ren} {h : Heap} {w : World} {H : Nat → Ent} {Q : Nat → Prop} (hs : Sim ρ0 h w) : ∀ (l : List Sh) (as : List AV) (vs : List Value), VRs ρ0 as vs → ∀ (y : Sh.Ts l) (bs : List Nat) (c : Bool), viewArgs H l as = some (y, bs, c) → (∀ b ∈ bs, h.get b = H b) → (∀ b ∈ bs, Q b) → c = true → ViewsA w ρ0.base (From ρ0 h Q) l y vs
  | [], [], [], _, y, bs, c, _, _, _, _ => ⟨[], rfl, fun ρ next _ _ => ⟨by simp [Sh.args, VRs], fun i blk h => by simp [Sh.entss] at h⟩⟩
  | [], [], _ :: _, hv, _, _, _, _, _, _, _ => by simp [VRs] at hv
  | [], _ :: _, _, _, _, _, _, h, _, _, _ => by simp [viewArgs] at h
  | _ :: _, [], _, _, _, _, _, h, _, _, _ => by simp [viewArgs] at h
  | _ :: _, _ :: _, [], hv, _, _, _, _, _, _, _ => by simp [VRs] at hv
  | s :: l, a :: as, v :: vs, hv, y, bs, c, hvw, hH, hQ, hc => by
    simp only [VRs] at hv
    simp only [viewArgs] at hvw
    split at hvw
    case h_2 => cases hvw
    rename_i y0 b0 c0 h0
    split at hvw
    case h_2 => cases hvw
    rename_i z b1 c1 h1
    injection hvw with hvw; injection hvw with e1 e2; injection e2 with e2 e3
    subst e1; subst e2; subst e3
    simp only [Bool.and_eq_true] at hc
    obtain ⟨cs, ⟨d1, l1, f1⟩, harg⟩ := viewA_ok hs hv.1 h0 (fun b hb => hH b (List.mem_append.2 (.inl hb))) (fun b hb => hQ b (List.mem_append.2 (.inl hb))) hc.1
    obtain ⟨d2, l2, f2⟩ := viewArgs_ok hs l as vs hv.2 z b1 c1 h1 (fun b hb => hH b (List.mem_append.2 (.inr hb))) (fun b hb => hQ b (List.mem_append.2 (.inr hb))) hc.2
    refine ⟨d1 ++ d2, by simp [Sh.nes, l1, l2], fun ρ next hb hρ => ?_⟩
    obtain ⟨a1, a2⟩ := f1 ρ next hb fun i d hi => hρ i d (by rw [List.getElem?_append_left]; exact hi; exact (List.getElem?_eq_some_iff.1 hi).1)
    obtain ⟨b1, b2⟩ := f2 ρ (next + s.ne) hb fun i d hi => by
      have := hρ (s.ne + i) d (by rw [List.getElem?_append_right (by omega), l1, Nat.add_sub_cancel_left]; exact hi)
      rw [Nat.add_assoc]; exact this
    refine ⟨by simp only [Sh.args, VRs]; exact ⟨harg ρ next a1, b1⟩, fun i blk hi => ?_⟩
    simp only [Sh.entss] at hi
    have el := ents_length s y0
    by_cases hil : i < s.ne
    · rw [List.getElem?_append_left (by omega)] at hi
      obtain ⟨d, h3, h4⟩ := a2 i blk hi
      exact ⟨d, by rw [List.getElem?_append_left (by omega)]; exact h3, h4⟩
    · rw [List.getElem?_append_right (by omega), el] at hi
      obtain ⟨d, h3, h4⟩ := b2 (i - s.ne) blk hi
      exact ⟨d, by rw [List.getElem?_append_right (by omega), l1]; exact h3, h4⟩

theorem inside_of18 {ρ : Ren} {W : World} {b o : Nat} {cs : Cells} (h : CellsAt ρ W b o cs) (hl : 0 < cs.len) : b < W.heap.size := by
  have key : ∀ off cv, W.cell? ⟨b, off, none⟩ = some cv → b < W.heap.size := fun off cv h => by
    rcases Nat.lt_or_ge b W.heap.size with h' | h'
    · exact h'
    · simp [World.cell?, Array.getElem?_eq_none h'] at h
  cases cs with
  | lit l => obtain ⟨cv, h1, _⟩ := h 0 l[0] (List.getElem?_eq_getElem hl); exact key _ cv h1
  | sym l => exact key _ _ (h 0 l[0] (List.getElem?_eq_getElem hl))
  | rows l => obtain ⟨cv, h1, _⟩ := h 0 l[0] (List.getElem?_eq_getElem hl); exact key _ cv h1
  | arr s l => exact key _ _ (h 0 (s.flatl l)[0] (List.getElem?_eq_getElem hl))
  | arrs s l => obtain ⟨cv, h1, _⟩ := h 0 l[0] (List.getElem?_eq_getElem hl); exact key _ cv h1

theorem get_entss {l : List Sh} {y : Sh.Ts l} {b : Nat} {blk : Blk} (hb : Heap.get (Sh.entss l y) b = .live blk) : (Sh.entss l y)[b]? = some (.live blk) := by
  simp only [Heap.get, List.getD_eq_getElem?_getD] at hb
  cases hq : (Sh.entss l y)[b]? with
  | none => rw [hq] at hb; cases hb
  | some e => rw [hq] at hb; simp at hb; rw [hb]
theorem entss_norw {l : List Sh} {y : Sh.Ts l} {b : Nat} {blk : Blk} (hb : Heap.get (Sh.entss l y) b = .live blk) : blk.rw = false := by
  obtain ⟨blk', h3, h4, _⟩ := entss_live l y _ (List.mem_of_getElem? (get_entss hb))
  injection h3 with h3; subst h3; exact h4

theorem sim_views {W B : World} (hB : B.heap.size ≤ W.heap.size) (hO : ∀ i, i < B.heap.size → W.heap[i]? = B.heap[i]?) {l : List Sh} {vs : List Value} {y : Sh.Ts l} {F : Nat → Prop} (h : ViewsA W B F l y vs) : ∃ ρ : Ren, ρ.base = B ∧ VRs ρ (Sh.args l y 0) vs ∧ Sim ρ (Sh.entss l y) W ∧ ∀ b blk d, Heap.get (Sh.entss l y) b = .live blk → ρ b = some d → 0 < blk.cells.len → F d.1 := by
  obtain ⟨c, hc, hf⟩ := h
  have hel := entss_length l y
  obtain ⟨h1, h2⟩ := hf ⟨fun b => c[b]?, B⟩ 0 rfl (fun i d hi => by simpa using hi)
  refine ⟨_, rfl, h1, ?_, fun b blk d hb hd hl => ?_⟩
  rotate_left
  · obtain ⟨d', h3, _, h5⟩ := h2 b blk (get_entss hb)
    have : some d' = some d := h3.symm.trans hd
    injection this with this; subst this; exact h5 hl
  have norw : ∀ b blk, Heap.get (Sh.entss l y) b = .live blk → blk.rw = true → False := fun b blk hb hr => by
    rw [entss_norw hb] at hr; cases hr
  refine ⟨fun b blk hb => ?_, fun b blk c' hb hc' => ?_, fun b blk c' hb hc' hs => ?_, fun b blk c' hb hc' hr => (norw b blk hb hr).elim, fun b b' blk blk' c' d' hb hb' hne hc' hd' hr => (norw b blk hb hr).elim, fun b hb => ?_, hB, hO, fun b blk c' hb hc' hr => (norw b blk hb hr).elim⟩
  · obtain ⟨d, h3, _⟩ := h2 b blk (get_entss hb); exact ⟨d, h3⟩
  · obtain ⟨d, h3, h4, _⟩ := h2 b blk (get_entss hb)
    have : some d = some c' := h3.symm.trans hc'
    injection this with this; subst this; exact h4
  · obtain ⟨d, h3, h4, _⟩ := h2 b blk (get_entss hb)
    have : some d = some c' := h3.symm.trans hc'
    injection this with this; subst this
    refine inside_of18 h4 ?_
    rcases hs with hs | hs
    · exact hs
    · exact (norw b blk hb hs.1).elim
  · show c[b]? = none
    have hb' : Heap.get (Sh.entss l y) b = .free := hb
    simp only [Heap.get, List.getD_eq_getElem?_getD] at hb'
    cases hq : (Sh.entss l y)[b]? with
    | none =>
      have : (Sh.entss l y).length ≤ b := by simpa using hq
      simp; omega
    | some e =>
      obtain ⟨blk, h3, _⟩ := entss_live l y e (List.mem_of_getElem? hq)
      rw [hq, h3] at hb'; simp at hb'

/-! ### new blocks behind a call -/
def wbNew : Nat → List Ent → List (Nat × Ent)
  | _, [] => []
  | k, e :: es => (k, e) :: wbNew (k + 1) es
theorem get_wbNew : ∀ (es : List Ent) (new : Nat) (h : Heap) (x : Nat), (h.upds (wbNew new es)).get x = if new ≤ x ∧ x < new + es.length then es.getD (x - new) .free else h.get x
  | [], new, h, x => by
    simp only [wbNew, Heap.upds, List.length_nil]
    rw [if_neg (by omega)]
  | e :: es, new, h, x => by
    simp only [wbNew, Heap.upds]
    rw [get_wbNew es (new + 1) _ x]
    by_cases h1 : new + 1 ≤ x ∧ x < new + 1 + es.length
    · rw [if_pos h1, if_pos (by simp; omega)]
      rw [show x - new = (x - (new + 1)) + 1 by omega]
      simp
    · rw [if_neg h1, Heap.get_upd]
      by_cases h2 : x = new
      · subst h2
        rw [if_pos rfl, if_pos (by simp)]
        simp
      · rw [if_neg h2, if_neg (by simp; omega)]

/-- An entry that a call may lay anew: parts of one shape, to be written. -/
def Ent.own : Ent → Bool
  | .live blk => blk.rw && (match blk.cells with
    | .arr _ _ => true
    | _ => false)
  | _ => false

theorem after_pure {Γ : Ctx} {ρ : Ren} {h : Heap} {w : World} (hI : Inv Γ ρ h w) {hg : Heap} (hgn : ∀ b blk, hg.get b = .live blk → blk.rw = false) {ρg ρg' : Ren} {es : List Ent} (hes : es.all Ent.own = true) {w' : World} (hJ : Inv ⟨hg.length, ρg, hg, w⟩ ρg' (hg ++ es) w')
    {new : Nat} (hn : Γ.n0 ≤ new) (hfree : ∀ x, new ≤ x → x < new + es.length → h.get x = .free) :
    ∃ ρ', ρ.le ρ' ∧ (∀ k, k < es.length → ρ' (new + k) = ρg' (hg.length + k)) ∧ Inv Γ ρ' (h.upds (wbNew new es)) w' := by
  let ρ' : Ren := ⟨fun x => if new ≤ x ∧ x < new + es.length then ρg' (hg.length + (x - new)) else ρ x, ρ.base⟩
  have ρ_old : ∀ x, ¬ (new ≤ x ∧ x < new + es.length) → ρ' x = ρ x := fun x hx => by simp only [ρ']; rw [if_neg hx]
  have ρ_new : ∀ x, (new ≤ x ∧ x < new + es.length) → ρ' x = ρg' (hg.length + (x - new)) := fun x hx => by simp only [ρ']; rw [if_pos hx]
  have notown : ∀ i, ¬ Ctx.owned ⟨hg.length, ρg, hg, w⟩ i := by
    rintro i ⟨b, blk, c, _, hb, hr, _⟩
    rw [hgn b blk hb] at hr; cases hr
  have keep : ∀ i, i < w.heap.size → w'.heap[i]? = w.heap[i]? := fun i hi => hJ.keep i hi (notown i)
  have hsz : w.heap.size ≤ w'.heap.size := hJ.size
  have hle : ρ.le ρ' := ⟨fun x d hx => by
    rw [ρ_old x fun hx' => by rw [hI.sim.dom x (hfree x hx'.1 hx'.2)] at hx; cases hx]; exact hx, rfl⟩
  -- the entries
  have ent : ∀ x blk, (h.upds (wbNew new es)).get x = .live blk → ((new ≤ x ∧ x < new + es.length) ∧ Heap.get (hg ++ es) (hg.length + (x - new)) = .live blk ∧ blk.rw = true ∧ (∃ s l, blk.cells = .arr s l)) ∨ (¬ (new ≤ x ∧ x < new + es.length) ∧ h.get x = .live blk) := by
    intro x blk hx
    rw [get_wbNew] at hx
    by_cases hw : new ≤ x ∧ x < new + es.length
    · rw [if_pos hw] at hx
      have h1 : es[x - new]? = some (.live blk) := by
        have : x - new < es.length := by omega
        rw [List.getD_eq_getElem?_getD, List.getElem?_eq_getElem this] at hx
        rw [List.getElem?_eq_getElem this]; simpa using hx
      have h2 := List.all_eq_true.1 hes _ (List.mem_of_getElem? h1)
      simp only [Ent.own, Bool.and_eq_true] at h2
      refine .inl ⟨hw, ?_, h2.1, ?_⟩
      · simp only [Heap.get, List.getD_eq_getElem?_getD]
        rw [List.getElem?_append_right (by omega), Nat.add_sub_cancel_left, h1]; rfl
      · obtain ⟨_, h3⟩ := h2
        split at h3
        · rename_i s l hc; exact ⟨s, l, hc⟩
        · cases h3
    · rw [if_neg hw] at hx; exact .inr ⟨hw, hx⟩
  have freshg : ∀ b blk c, Heap.get (hg ++ es) b = .live blk → ρg' b = some c → blk.rw = true → blk.solid c → w.heap.size ≤ c.1 := fun b blk c hb hc hr hs => by
    rcases hJ.fresh b blk c hb hc hr hs with h1 | h1
    · exact h1
    · exact absurd h1 (notown _)
  refine ⟨ρ', hle, fun k hk => by rw [ρ_new _ (by omega)]; congr 1; omega, ⟨⟨?_, ?_, ?_, ?_, ?_, ?_, ?_, ?_, ?_⟩, ?_, hI.sameBase, hJ.os.trans hI.os, hJ.tape.trans hI.tape, hJ.output.trans hI.output, Nat.le_trans hI.size hsz, ?_, ?_⟩⟩
  · intro x blk hx
    rcases ent x blk hx with ⟨h1, h2, _⟩ | ⟨h1, h2⟩
    · rw [ρ_new x h1]; exact hJ.sim.some_ _ blk h2
    · rw [ρ_old x h1]; exact hI.sim.some_ x blk h2
  · intro x blk c hx hc
    rcases ent x blk hx with ⟨h1, h2, _, s, l, h3⟩ | ⟨h1, h2⟩
    · rw [ρ_new x h1] at hc
      have := hJ.sim.cells _ blk c h2 hc
      rw [h3] at this ⊢; exact this
    · rw [ρ_old x h1] at hc
      refine ((hI.sim.cells x blk c h2 hc).of_cell fun hpos o => ?_).mono hle
      exact cell_of_heap (keep _ (hI.sim.inside x blk c h2 hc (.inl hpos))) o
  · intro x blk c hx hc hs
    rcases ent x blk hx with ⟨h1, h2, _⟩ | ⟨h1, h2⟩
    · rw [ρ_new x h1] at hc; exact hJ.sim.inside _ blk c h2 hc hs
    · rw [ρ_old x h1] at hc; have := hI.sim.inside x blk c h2 hc hs; omega
  · intro x blk c hx hc hr hs
    rcases ent x blk hx with ⟨h1, h2, _⟩ | ⟨h1, h2⟩
    · rw [ρ_new x h1] at hc; exact hJ.sim.own _ blk c h2 hc hr hs
    · rw [ρ_old x h1] at hc
      obtain ⟨k1, cs, el, k2, k3⟩ := hI.sim.own x blk c h2 hc hr hs
      exact ⟨k1, cs, el, by rw [keep _ (hI.sim.inside x blk c h2 hc hs)]; exact k2, k3⟩
  · intro x y xb yb c d hx hy hne hc hd hr hs hs'
    rcases ent x xb hx with ⟨h1, h2, _⟩ | ⟨h1, h2⟩
    · rw [ρ_new x h1] at hc
      rcases ent y yb hy with ⟨k1, k2, _⟩ | ⟨k1, k2⟩
      · rw [ρ_new y k1] at hd
        exact hJ.sim.apart _ _ xb yb c d h2 k2 (by omega) hc hd hr hs hs'
      · rw [ρ_old y k1] at hd
        have := hI.sim.inside y yb d k2 hd hs'
        have := freshg _ xb c h2 hc hr hs
        omega
    · rw [ρ_old x h1] at hc
      rcases ent y yb hy with ⟨k1, k2, k3, _⟩ | ⟨k1, k2⟩
      · rw [ρ_new y k1] at hd
        have := hI.sim.inside x xb c h2 hc hs
        have := freshg _ yb d k2 hd k3 hs'
        omega
      · rw [ρ_old y k1] at hd
        exact hI.sim.apart x y xb yb c d h2 k2 hne hc hd hr hs hs'
  · intro x hx
    rw [get_wbNew] at hx
    by_cases hw : new ≤ x ∧ x < new + es.length
    · rw [if_pos hw] at hx
      have : x - new < es.length := by omega
      rw [List.getD_eq_getElem?_getD, List.getElem?_eq_getElem this] at hx
      have h2 := List.all_eq_true.1 hes _ (List.getElem_mem this)
      simp at hx; rw [hx] at h2; cases h2
    · rw [if_neg hw] at hx
      rw [ρ_old x hw]; exact hI.sim.dom x hx
  · show ρ.base.heap.size ≤ _
    have := hI.sim.baseLe; omega
  · intro i hi
    have hi : i < ρ.base.heap.size := hi
    rw [keep i (by have := hI.sim.baseLe; omega)]; exact hI.sim.old i hi
  · intro x blk c hx hc hr hs
    show ρ.base.heap.size ≤ _
    rcases ent x blk hx with ⟨h1, h2, _⟩ | ⟨h1, h2⟩
    · rw [ρ_new x h1] at hc
      have := freshg _ blk c h2 hc hr hs
      have := hI.sim.baseLe; omega
    · rw [ρ_old x h1] at hc; exact hI.sim.above x blk c h2 hc hr hs
  · intro b hb
    rw [ρ_old b (by omega)]; exact hI.agree b hb
  · intro i hi hno
    rw [keep i (by have := hI.size; omega)]; exact hI.keep i hi hno
  · intro x blk c hx hc hr hs
    rcases ent x blk hx with ⟨h1, h2, _⟩ | ⟨h1, h2⟩
    · rw [ρ_new x h1] at hc
      have := freshg _ blk c h2 hc hr hs
      have := hI.size
      exact .inl (by omega)
    · rw [ρ_old x h1] at hc; exact hI.fresh x blk c h2 hc hr hs

theorem Invokes.mono {P : Program} {f : FuncId} {args : Array Value} {w : World} {R R' : Ending → World → Prop} (h : Invokes P f args w R) (hr : ∀ e w, R e w → R' e w) : Invokes P f args w R' := by
  unfold Invokes at *
  generalize (callFunc f args).run P w = r at h
  cases r with
  | halt x w' => exact h.elim
  | ok nx w' =>
    cases nx with
    | enter g as => exact Calls.mono h hr
    | value v => exact hr _ _ h
    | _ => exact h.elim

/-! ### results, numbered anew -/
theorem VRs.nil_any {ρ ρ' : Ren} {cs : List Value} (h : VRs ρ [] cs) : VRs ρ' [] cs := by
  cases cs with
  | nil => simp [VRs]
  | cons => simp [VRs] at h
mutual
theorem cells_shift {ρ ρ' : Ren} : ∀ (s : Sh) (y : s.T) (n new : Nat), (∀ k, k < s.ne → ρ' (new + k) = ρ (n + k)) → ∀ cs, VRs ρ (s.cells y n) cs → VRs ρ' (s.cells y new) cs
  | .int k, y, n, new, _, [], h => by simp [Sh.cells, VRs] at h
  | .int k, y, n, new, _, v :: cs, h => by
    simp only [Sh.cells, VRs, VR] at h ⊢
    exact ⟨h.1, h.2.nil_any⟩
  | .bool, y, n, new, _, [], h => by simp [Sh.cells, VRs] at h
  | .bool, y, n, new, _, v :: cs, h => by
    simp only [Sh.cells, VRs, VR] at h ⊢
    exact ⟨h.1, h.2.nil_any⟩
  | .str, y, n, new, _, [], h => by simp [Sh.cells, VRs] at h
  | .str, y, n, new, _, v :: cs, h => by
    simp only [Sh.cells, VRs, VR] at h ⊢
    exact ⟨h.1, h.2.nil_any⟩
  | .st l, y, n, new, hk, cs, h => by
    simp only [Sh.cells] at *
    exact cellss_shift l y n new hk cs h
  | .sl e, y, n, new, hk, cs, h => by
    have h0 := hk 0 (by simp [Sh.ne])
    simp only [Nat.add_zero] at h0
    cases cs with
    | nil => simp [Sh.cells, VRs] at h
    | cons v cs =>
      simp only [Sh.cells, VRs] at h ⊢
      refine ⟨?_, h.2.nil_any⟩
      have h1 := h.1
      simp only [VR] at h1 ⊢
      rw [h0]; exact h1
  | .rows e, y, n, new, hk, cs, h => by
    have h0 := hk 0 (by simp [Sh.ne])
    simp only [Nat.add_zero] at h0
    cases cs with
    | nil => simp [Sh.cells, VRs] at h
    | cons v cs =>
      simp only [Sh.cells, VRs] at h ⊢
      refine ⟨?_, h.2.nil_any⟩
      have h1 := h.1
      simp only [VR] at h1 ⊢
      rw [h0]; exact h1
theorem cellss_shift {ρ ρ' : Ren} : ∀ (l : List Sh) (y : Sh.Ts l) (n new : Nat), (∀ k, k < Sh.nes l → ρ' (new + k) = ρ (n + k)) → ∀ cs, VRs ρ (Sh.cellss l y n) cs → VRs ρ' (Sh.cellss l y new) cs
  | [], _, _, _, _, cs, h => h.nil_any
  | s :: l, y, n, new, hk, cs, h => by
    simp only [Sh.cellss] at h ⊢
    obtain ⟨v1, v2, rfl, h1, h2⟩ := VRs.split _ _ _ h
    refine (cells_shift s y.1 n new (fun k hl => hk k (by simp only [Sh.nes]; omega)) v1 h1).append (cellss_shift l y.2 (n + s.ne) (new + s.ne) (fun k hl => ?_) v2 h2)
    have := hk (s.ne + k) (by simp only [Sh.nes]; omega)
    rw [Nat.add_assoc, Nat.add_assoc]; exact this
end
theorem arg_shift {ρ ρ' : Ren} (s : Sh) (y : s.T) (n new : Nat) (hk : ∀ k, k < s.ne → ρ' (new + k) = ρ (n + k)) {v : Value} (h : VR ρ (s.arg y n) v) : VR ρ' (s.arg y new) v := by
  have one : s.cells y n = [s.arg y n] → s.cells y new = [s.arg y new] → VR ρ' (s.arg y new) v := fun e1 e2 => by
    have := cells_shift s y n new hk [v] (by rw [e1]; simp only [VRs]; exact ⟨h, trivial⟩)
    rw [e2] at this; simpa [VRs] using this
  cases s with
  | st l =>
    simp only [Sh.arg, VR] at h ⊢
    obtain ⟨cs, h1, h2⟩ := h
    exact ⟨cs, h1, cellss_shift l y n new hk _ h2⟩
  | int k => exact one rfl rfl
  | bool => exact one rfl rfl
  | str => exact one rfl rfl
  | sl e => exact one rfl rfl
  | rows e => exact one rfl rfl
theorem args_shift {ρ ρ' : Ren} : ∀ (l : List Sh) (y : Sh.Ts l) (n new : Nat), (∀ k, k < Sh.nes l → ρ' (new + k) = ρ (n + k)) → ∀ cs, VRs ρ (Sh.args l y n) cs → VRs ρ' (Sh.args l y new) cs
  | [], _, _, _, _, cs, h => h.nil_any
  | s :: l, y, n, new, hk, [], h => by simp [Sh.args, VRs] at h
  | s :: l, y, n, new, hk, v :: cs, h => by
    simp only [Sh.args, VRs] at h ⊢
    refine ⟨arg_shift s y.1 n new (fun k hl => hk k (by simp only [Sh.nes]; omega)) h.1, args_shift l y.2 (n + s.ne) (new + s.ne) (fun k hl => ?_) cs h.2⟩
    have := hk (s.ne + k) (by simp only [Sh.nes]; omega)
    rw [Nat.add_assoc, Nat.add_assoc]; exact this

/-- What a function hands out, whose results have these shapes; its blocks numbered from n on. -/
def outV (rs : List Sh) (y : Sh.Ts rs) (n : Nat) : AV := resV (Sh.args rs y n)
theorem outV_shift {ρ ρ' : Ren} (rs : List Sh) (y : Sh.Ts rs) (n new : Nat) (hk : ∀ k, k < Sh.nes rs → ρ' (new + k) = ρ (n + k)) {v : Value} (h : VR ρ (outV rs y n) v) : VR ρ' (outV rs y new) v := by
  have len : ∀ (l : List Sh) (y : Sh.Ts l) n, (Sh.args l y n).length = l.length := by
    intro l
    induction l with
    | nil => intros; rfl
    | cons s l ih => intro y n; simp [Sh.args, ih]
  unfold outV resV at *
  match rs, y, hk, h with
  | [s], y, hk, h =>
    simp only [Sh.args] at h ⊢
    exact arg_shift s y.1 n new (fun k hl => hk k (by simp only [Sh.nes]; omega)) h
  | [], y, hk, h =>
    simp only [Sh.args, VR] at h ⊢
    obtain ⟨vs, h1, h2⟩ := h
    exact ⟨vs, h1, h2.nil_any⟩
  | s :: s' :: l, y, hk, h =>
    simp only [Sh.args] at h ⊢
    simp only [VR] at h ⊢
    obtain ⟨vs, h1, h2⟩ := h
    exact ⟨vs, h1, args_shift (s :: s' :: l) y n new hk _ h2⟩
def rwEnt : Ent → Ent
  | .live b => .live { b with rw := true }
  | e => e
def newEnts (rs : List Sh) (y : Sh.Ts rs) : List Ent := (Sh.entss rs y).map rwEnt

/-- A function that only reads what it is handed: whatever the arguments, where the law tells an answer, that is what comes out. -/
def Reads (P : Program) (f : FuncId) (ss rs : List Sh) (law : Sh.Ts ss → Option (Sh.Ts rs)) : Prop :=
  ∀ x y, law x = some y → Does P f (Sh.args ss x 0) (Sh.entss ss x) (outV rs y (Sh.entss ss x).length) (Sh.entss ss x ++ newEnts rs y)

def readsS {P : Program} {β : Type} (ss rs : List Sh) (law : Sh.Ts ss → Option (Sh.Ts rs)) (H : Nat → Ent) (new : Nat) (args : List AV) (K : Eff → Option β) : Option β :=
  match viewArgs H ss args with
  | some (x, bs, c) => ifK c ((law x).bind fun y => ifK ((newEnts rs y).all Ent.own) (K { rb := bs, wb := wbNew new (newEnts rs y), nw := (newEnts rs y).length, val := outV rs y new }))
  | none => none

def Reads.summ {P : Program} {f : FuncId} {ss rs : List Sh} {law : Sh.Ts ss → Option (Sh.Ts rs)} (hr : Reads P f ss rs law) : Summ P where
  f := f
  S := fun H new args K => readsS (P := P) ss rs law H new args K
  ok := by
    intro β H new args K r hs
    unfold readsS at hs
    split at hs
    case h_2 => cases hs
    rename_i x bs c hv
    obtain ⟨hc, hs⟩ := ifK_some hs
    rw [Option.bind_eq_some_iff] at hs
    obtain ⟨y, hy, hs⟩ := hs
    obtain ⟨hown, hs⟩ := ifK_some hs
    refine ⟨_, hs, fun Γ ρ h w cargs hI hargs hH hn hfree => ?_⟩
    obtain ⟨ρg, _, h1, h2, _⟩ := sim_views hI.sim.baseLe hI.sim.old (viewArgs_ok (Q := fun _ => True) hI.sim ss args _ hargs x bs c hv hH (fun _ _ => trivial) hc)
    refine (hr x y hy ρg w cargs h2 h1).mono fun e w' ⟨ρg', cv, he, hvv, hJ⟩ => ?_
    have hnl : (newEnts rs y).length = Sh.nes rs := by simp [newEnts, entss_length]
    obtain ⟨ρ', g1, g2, g3⟩ := after_pure hI (fun b blk hb => entss_norw hb) hown hJ hn hfree
    exact ⟨ρ', cv, he, g1, outV_shift rs y _ new (fun k hk => g2 k (by omega)) hvv, g3⟩

end Go.Ab
