/-
  CORE 14: one operation, evaluated with what comes behind it: where it may go wrong or either way, the evaluation branches.
-/
import Derived.Test.YtiikkepnpidilaaCore13
set_option linter.unusedVariables false
set_option linter.unusedSimpArgs false
namespace Go.Ab

/-- The operation has this effect. -/
def EffOK (P : Program) (o : Oper) (E : Operand → AV) (H : Nat → Ent) (new : Nat) (e : Eff) : Prop :=
  ∀ (Γ : Ctx) (ρ : Ren) (h : Heap) (w : World) (a : Act), Inv Γ ρ h w → (∀ x ∈ o.op.operands, VR ρ (E x) (a.eval x)) → (∀ b ∈ e.rb, h.get b = H b) → Γ.n0 ≤ new → (∀ x, new ≤ x → x < new + e.nw → h.get x = .free) → LStep P Γ o ρ h w a e
/-- The call has this effect. -/
def CallOK (P : Program) (f : FuncId) (args : List AV) (H : Nat → Ent) (new : Nat) (e : Eff) : Prop :=
  ∀ (Γ : Ctx) (ρ : Ren) (h : Heap) (w : World) (cargs : Array Value), Inv Γ ρ h w → VRs ρ args cargs.toList → (∀ b ∈ e.rb, h.get b = H b) → Γ.n0 ≤ new → (∀ x, new ≤ x → x < new + e.nw → h.get x = .free) →
    Invokes P f cargs w fun en w' => ∃ ρ' cv, en = .returned cv ∧ ρ.le ρ' ∧ VR ρ' e.val cv ∧ Inv Γ ρ' (h.upds e.wb) w'

/-- What is known of a function that is called: by the caller's blocks and arguments, an effect, handed on. -/
structure Summ (P : Program) where
  f : FuncId
  S : {β : Type} → (Nat → Ent) → Nat → List AV → (Eff → Option β) → Option β
  ok : ∀ {β : Type} (H : Nat → Ent) (new : Nat) (args : List AV) (K : Eff → Option β) (r : β), S H new args K = some r → ∃ e, K e = some r ∧ CallOK P f args H new e
abbrev Env (P : Program) := List (Summ P)
def Env.find {P : Program} : Env P → FuncId → Option (Summ P)
  | [], _ => none
  | s :: l, f => if s.f = f then some s else Env.find l f
theorem Env.find_f {P : Program} : ∀ (l : Env P) (f : FuncId) (s : Summ P), l.find f = some s → s.f = f
  | [], f, s, h => by simp [Env.find] at h
  | x :: l, f, s, h => by
    simp only [Env.find] at h
    split at h
    · rename_i hf; injection h with h; subst h; exact hf
    · exact Env.find_f l f s h

/-- One of n places. -/
def selK {β : Type} (i : Int) : Nat → Nat → (Nat → Option β) → Option β
  | _, 0, _ => none
  | j, n + 1, K => bif decide (i = (j : Int)) then K j else selK i (j + 1) n K
theorem selK_some {β : Type} {i : Int} {K : Nat → Option β} {r : β} : ∀ (n j : Nat), selK i j n K = some r → ∃ k, j ≤ k ∧ k < j + n ∧ i = (k : Int) ∧ K k = some r
  | 0, j, h => by simp [selK] at h
  | n + 1, j, h => by
    simp only [selK] at h
    cases hd : decide (i = (j : Int)) with
    | true => rw [hd] at h; exact ⟨j, Nat.le_refl _, by omega, by simpa using hd, h⟩
    | false =>
      rw [hd] at h
      obtain ⟨k, h1, h2, h3, h4⟩ := selK_some n (j + 1) h
      exact ⟨k, by omega, by omega, h3, h4⟩
def ifK {β : Type} (b : Bool) (K : Option β) : Option β := bif b then K else none
theorem ifK_some {β : Type} {b : Bool} {K : Option β} {r : β} (h : ifK b K = some r) : b = true ∧ K = some r := by
  cases b
  · simp [ifK] at h
  · exact ⟨rfl, h⟩

def isArr : Ent → Bool
  | .live blk => match blk.cells with
    | .arr _ _ => true
    | .arrs _ _ => true
    | _ => false
  | _ => false

def idxAddrK {β : Type} (P : Program) (t : TypeId) (x i : AV) (H : Nat → Ent) (K : Eff → Option β) : Option β :=
  match intOfA i with
  | none => none
  | some n => match x, P.underlying t with
    | .ptr b o, some (.array len el) => (match P.info? el with
      | none => none
      | some ie => match isArr (H b) with
        | true => ifK (decide (0 ≤ n) && decide (n < (len : Int))) (K { val := .elt b o n.toNat ie.size 0 })
        | false => selK n 0 len fun j => K { val := .ptr b (o + j * ie.size) })
    | .slc b o len c, some (.slice el) => (match P.info? el with
      | none => none
      | some ie => match isArr (H b) with
        | true => ifK (decide (0 ≤ n) && decide (n < (len : Int))) (K { val := .elt b o n.toNat ie.size 0 })
        | false => selK n 0 len fun j => K { val := .ptr b (o + j * ie.size) })
    | _, _ => none

theorem idxAddrK_ok {β : Type} {P : Program} {o : Oper} {t : TypeId} {x i : Operand} (hop : o.op = .indexAddr t x i) {E : Operand → AV} {H : Nat → Ent} {new : Nat} {K : Eff → Option β} {r : β} (h : idxAddrK P t (E x) (E i) H K = some r) : ∃ e, K e = some r ∧ EffOK P o E H new e := by
  unfold idxAddrK at h
  split at h
  · cases h
  rename_i n hn
  have fin : ∀ (e : Eff) (len : Nat), e.wb = [] → (0 ≤ n ∧ n < (len : Int)) → (∀ chk, coreIndexAddr P t (E x) (E i) chk = need chk (0 ≤ n ∧ n < (len : Int)) { val := (match (E x) with | .ptr b o => .ptr b (o + n.toNat * ((P.info? (match P.underlying t with | some (.array _ el) => el | some (.slice el) => el | _ => 0)).map (·.size)).getD 0) | .slc b o _ _ => .ptr b (o + n.toNat * ((P.info? (match P.underlying t with | some (.array _ el) => el | some (.slice el) => el | _ => 0)).map (·.size)).getD 0) | a => a) }) →
      (∀ ρ cv, VR ρ (match (E x) with | .ptr b o => .ptr b (o + n.toNat * ((P.info? (match P.underlying t with | some (.array _ el) => el | some (.slice el) => el | _ => 0)).map (·.size)).getD 0) | .slc b o _ _ => .ptr b (o + n.toNat * ((P.info? (match P.underlying t with | some (.array _ el) => el | some (.slice el) => el | _ => 0)).map (·.size)).getD 0) | a => a) cv → VR ρ e.val cv) → EffOK P o E H new e := by
    intro e len hw hb hc hv Γ ρ h w a hI hE _ _ _
    have hok := coreIndexAddr_ok (P := P) (t := t) hI (hE x (by simp [hop, Op.operands])) (hE i (by simp [hop, Op.operands])) (chk := some ⟨_, hb⟩) (by rw [hc (some ⟨_, hb⟩)]; rfl) (by
      intro q hq
      simp at hq; subst hq; rfl)
    refine lstep_of_ok ?_
    obtain ⟨ρ', nx, cv, w', h1, h2, h3, h4, h5⟩ := hok
    refine ⟨ρ', nx, cv, w', by simpa only [execOp, hop] using h1, h2, h3, hv ρ' cv h4, ?_⟩
    rw [hw]; exact h5
  split at h
  · rename_i b ofs len el hx hu
    split at h
    · cases h
    rename_i ie hie
    split at h
    · obtain ⟨hb, hk⟩ := ifK_some h
      simp only [Bool.and_eq_true, decide_eq_true_eq] at hb
      refine ⟨_, hk, fin _ len rfl hb (fun chk => ?_) fun ρ cv hv => ?_⟩
      · simp only [coreIndexAddr, hn, Option.bind_some, hx, hu, hie, Option.map_some, Option.getD_some]
      · simp only [hx, hu, hie, Option.map_some, Option.getD_some, VR] at hv
        simpa [VR] using hv
    · obtain ⟨k, h1, h2, h3, hk⟩ := selK_some _ _ h
      refine ⟨_, hk, fin _ len rfl (by omega) (fun chk => ?_) fun ρ cv hv => ?_⟩
      · simp only [coreIndexAddr, hn, Option.bind_some, hx, hu, hie, Option.map_some, Option.getD_some]
      · simp only [hx, hu, hie, Option.map_some, Option.getD_some] at hv
        rw [h3] at hv; simpa using hv
  · rename_i b ofs len c el hx hu
    split at h
    · cases h
    rename_i ie hie
    split at h
    · obtain ⟨hb, hk⟩ := ifK_some h
      simp only [Bool.and_eq_true, decide_eq_true_eq] at hb
      refine ⟨_, hk, fin _ len rfl hb (fun chk => ?_) fun ρ cv hv => ?_⟩
      · simp only [coreIndexAddr, hn, Option.bind_some, hx, hu, hie, Option.map_some, Option.getD_some]
      · simp only [hx, hu, hie, Option.map_some, Option.getD_some, VR] at hv
        simpa [VR] using hv
    · obtain ⟨k, h1, h2, h3, hk⟩ := selK_some _ _ h
      refine ⟨_, hk, fin _ len rfl (by omega) (fun chk => ?_) fun ρ cv hv => ?_⟩
      · simp only [coreIndexAddr, hn, Option.bind_some, hx, hu, hie, Option.map_some, Option.getD_some]
      · simp only [hx, hu, hie, Option.map_some, Option.getD_some] at hv
        rw [h3] at hv; simpa using hv
  · cases h

def idxK {β : Type} (P : Program) (t : TypeId) (x i : AV) (K : Eff → Option β) : Option β :=
  match intOfA i with
  | none => none
  | some n => match x, P.underlying t with
    | .agg cs, some (.array len el) => (match P.info? el with
      | none => none
      | some ie => selK n 0 len fun j => (match partA P el cs (j * ie.size) with
        | some r => K { val := r }
        | none => none))
    | .val (.string s), some .string => ifK (decide (0 ≤ n) && decide (n < (s.size : Int))) (K { val := .val (.int .u8 ((s.data.toList.getD n.toNat 0).toNat : Int)) })
    | _, _ => none
theorem idxK_ok {β : Type} {P : Program} {o : Oper} {t : TypeId} {x i : Operand} (hop : o.op = .index t x i) {E : Operand → AV} {H : Nat → Ent} {new : Nat} {K : Eff → Option β} {r : β} (h : idxK P t (E x) (E i) K = some r) : ∃ e, K e = some r ∧ EffOK P o E H new e := by
  unfold idxK at h
  split at h
  · cases h
  rename_i n hn
  have fin : ∀ (e : Eff) (p : Prop) [Decidable p] (pf : p), e.wb = [] → e.ob = [] → coreIndex P t (E x) (E i) (some ⟨p, pf⟩) = need (some ⟨p, pf⟩) p e → EffOK P o E H new e := by
    intro e p _ pf hw hob hc Γ ρ h w a hI hE _ _ _
    have hok := coreIndex_ok (P := P) (t := t) hI (hE x (by simp [hop, Op.operands])) (hE i (by simp [hop, Op.operands])) (chk := some ⟨p, pf⟩) (by rw [hc]; rfl) (by
      intro q hq
      simp [hob] at hq; subst hq; rfl)
    refine lstep_of_ok ?_
    obtain ⟨ρ', nx, cv, w', h1, h2, h3, h4, h5⟩ := hok
    exact ⟨ρ', nx, cv, w', by simpa only [execOp, hop] using h1, h2, h3, h4, h5⟩
  split at h
  · rename_i cs len el hx hu
    split at h
    · cases h
    rename_i ie hie
    obtain ⟨k, h1, h2, h3, hk⟩ := selK_some _ _ h
    split at hk
    case h_2 => cases hk
    rename_i v hv
    have hb : 0 ≤ n ∧ n < (len : Int) := by omega
    refine ⟨_, hk, fin _ _ hb rfl rfl ?_⟩
    have hkn : n.toNat = k := by omega
    simp only [coreIndex, hn, Option.bind_some, hx, hu, hie, hkn, hv]
  · rename_i s hx hu
    obtain ⟨hb, hk⟩ := ifK_some h
    simp only [Bool.and_eq_true, decide_eq_true_eq] at hb
    refine ⟨_, hk, fin _ _ hb rfl rfl ?_⟩
    simp only [coreIndex, hn, Option.bind_some, hx, hu]
  · cases h

/-! ### parts of a slice -/
def eltAt (w o i : Nat) : Option Nat :=
  if w = 0 then none else match o with
    | 0 => some i
    | o' + 1 => if w = 1 then some (o' + 1 + i) else if (o' + 1) % w = 0 then some ((o' + 1) / w + i) else none
theorem eltAt_some {w o i k : Nat} (h : eltAt w o i = some k) : o + i * w = k * w ∧ 0 < w := by
  unfold eltAt at h
  split at h
  · cases h
  rename_i h1
  split at h
  · injection h with h; subst h; exact ⟨by simp, by omega⟩
  · split at h
    · rename_i hw; injection h with h; subst h; subst hw; simp
    · split at h
      · rename_i h2 h3
        injection h with h; subst h
        refine ⟨?_, by omega⟩
        rw [Nat.add_mul, Nat.div_mul_cancel (Nat.dvd_of_mod_eq_zero h3)]
      · cases h

theorem flatl_get {s : Sh} (hf : s.flat = true) (hw : 0 < s.w) {l : List s.T} {k : Nat} {y : s.T} (hk : l[k]? = some y) {j : Nat} {v : Value} (hj : (s.enc y)[j]? = some v) : (s.flatl l)[k * s.w + j]? = some v := by
  have hjw : j < s.w := by
    have := enc_length s y hf
    rcases Nat.lt_or_ge j (s.enc y).length with h' | h'
    · omega
    · simp [List.getElem?_eq_none h'] at hj
  induction l generalizing k with
  | nil => simp at hk
  | cons z l ih =>
    have hz := enc_length s z hf
    simp only [Sh.flatl, List.flatMap_cons]
    cases k with
    | zero =>
      simp at hk; subst hk
      rw [List.getElem?_append_left (by omega)]; simpa using hj
    | succ k =>
      rw [List.getElem?_append_right (by rw [hz, Nat.add_mul]; omega), hz]
      have := ih (by simpa using hk)
      simp only [Sh.flatl] at this
      rw [show (k + 1) * s.w + j - s.w = k * s.w + j by rw [Nat.add_mul]; omega]
      exact this

def eltLoadK {β : Type} (P : Program) (t : TypeId) (b o i w f : Nat) (H : Nat → Ent) (new : Nat) (K : Eff → Option β) : Option β :=
  match H b with
  | .live blk => match blk.cells with
    | .arr s l => if s.flat = true ∧ s.w = w then (match eltAt w o i with
      | none => none
      | some k => (l[k]?).bind fun y => match partA P t ((s.enc y).map .val) f with
        | some a => K { rb := [b], val := a }
        | none => none) else none
    | .arrs s l => if s.flat = true ∧ s.w = 1 ∧ w = 1 ∧ f = 0 then (match P.underlying t with
      | some (.slice _) => (match eltAt 1 o i with
        | none => none
        | some k => (l[k]?).bind fun r => K { rb := [b], wb := [(new, .live { cells := .arr s r, rw := false })], nw := 1, val := .slc new 0 r.length .low })
      | _ => none) else none
    | _ => none
  | _ => none

theorem arr_lit {ρ : Ren} {w : World} {cb co : Nat} {s : Sh} {l : List s.T} (hf : s.flat = true) (hw : 0 < s.w) (hc : CellsAt ρ w cb co (.arr s l)) {k : Nat} {y : s.T} (hk : l[k]? = some y) : CellsAt ρ w cb (co + k * s.w) (.lit ((s.enc y).map .val)) := by
  intro j v hj
  simp only [List.getElem?_map, Option.map_eq_some_iff] at hj
  obtain ⟨u, h1, rfl⟩ := hj
  exact ⟨u, by have := hc _ _ (flatl_get hf hw hk h1); rw [Nat.add_assoc]; exact this, by simp [VR]⟩

/-- A row of long ago is given a number, as parts of one shape. -/
theorem Inv.addArr {Γ : Ctx} {ρ : Ren} {h : Heap} {w : World} (hI : Inv Γ ρ h w) {new : Nat} (hn : Γ.n0 ≤ new) (hfree : h.get new = .free) (s : Sh) (r : List s.T) (cb co : Nat) (hr : ∀ (j : Nat) (v : Value), (s.flatl r)[j]? = some v → ρ.base.cell? ⟨cb, co + j, none⟩ = some v) :
    ρ.le (ρ.put new (cb, co, 0)) ∧ Inv Γ (ρ.put new (cb, co, 0)) (h.upd new (.live { cells := .arr s r, rw := false })) w := by
  obtain ⟨h1, h2⟩ := hI.addRo hn hfree (s.flatl r) cb co hr
  refine ⟨h1, ?_⟩
  have sw : ∀ x blk, (h.upd new (.live { cells := .arr s r, rw := false })).get x = .live blk → ∃ blk', (h.upd new (.live { cells := .sym (s.flatl r), rw := false })).get x = .live blk' ∧ blk'.rw = blk.rw ∧ blk'.grow = blk.grow ∧ blk'.cells.len = blk.cells.len ∧ (∀ ρ w cb co, CellsAt ρ w cb co blk'.cells → CellsAt ρ w cb co blk.cells) := by
    intro x blk hx
    rw [Heap.get_upd] at hx ⊢
    by_cases hxn : x = new
    · rw [if_pos hxn] at hx ⊢
      injection hx with hx; subst hx
      exact ⟨_, rfl, rfl, rfl, rfl, fun ρ w cb co h => h⟩
    · rw [if_neg hxn] at hx ⊢
      exact ⟨blk, hx, rfl, rfl, rfl, fun _ _ _ _ h => h⟩
  have sol : ∀ (blk blk' : Blk) c, blk'.rw = blk.rw → blk'.cells.len = blk.cells.len → blk.solid c → blk'.solid c := fun blk blk' c e1 e2 hs => by
    unfold Blk.solid at *
    rw [e1, e2]; exact hs
  refine ⟨⟨fun x blk hx => ?_, fun x blk c hx hc => ?_, fun x blk c hx hc hs => ?_, fun x blk c hx hc hr hs => ?_, fun x y xb yb c d hx hy hne hc hd hr hs hs' => ?_, fun x hx => ?_, h2.sim.baseLe, h2.sim.old, fun x blk c hx hc hr hs => ?_⟩, h2.agree, h2.sameBase, h2.os, h2.tape, h2.output, h2.size, h2.keep, fun x blk c hx hc hr hs => ?_⟩
  · obtain ⟨blk', h3, _⟩ := sw x blk hx; exact h2.sim.some_ x blk' h3
  · obtain ⟨blk', h3, _, _, _, h4⟩ := sw x blk hx; exact h4 _ _ _ _ (h2.sim.cells x blk' c h3 hc)
  · obtain ⟨blk', h3, e1, _, e2, _⟩ := sw x blk hx; exact h2.sim.inside x blk' c h3 hc (sol _ _ _ e1 e2 hs)
  · obtain ⟨blk', h3, e1, e3, e2, _⟩ := sw x blk hx
    obtain ⟨k1, cs, el, k2, k3, k4⟩ := h2.sim.own x blk' c h3 hc (e1.trans hr) (sol _ _ _ e1 e2 hs)
    exact ⟨k1, cs, el, k2, by rw [← e2]; exact k3, by rw [← e3]; exact k4⟩
  · obtain ⟨xb', h3, e1, _, e2, _⟩ := sw x xb hx
    obtain ⟨yb', h3', e1', _, e2', _⟩ := sw y yb hy
    exact h2.sim.apart x y xb' yb' c d h3 h3' hne hc hd (e1.trans hr) (sol _ _ _ e1 e2 hs) (sol _ _ _ e1' e2' hs')
  · refine h2.sim.dom x ?_
    rw [Heap.get_upd] at hx ⊢
    split at hx
    · cases hx
    · rename_i hxn; rw [if_neg hxn]; exact hx
  · obtain ⟨blk', h3, e1, _, e2, _⟩ := sw x blk hx; exact h2.sim.above x blk' c h3 hc (e1.trans hr) (sol _ _ _ e1 e2 hs)
  · obtain ⟨blk', h3, e1, _, e2, _⟩ := sw x blk hx; exact h2.fresh x blk' c h3 hc (e1.trans hr) (sol _ _ _ e1 e2 hs)

theorem eltLoadK_ok {β : Type} {P : Program} {o : Oper} {t : TypeId} {x : Operand} (hop : o.op = .load t x) {E : Operand → AV} {b ofs i w f : Nat} (hx : E x = .elt b ofs i w f) {H : Nat → Ent} {new : Nat} {K : Eff → Option β} {r : β} (h : eltLoadK P t b ofs i w f H new K = some r) : ∃ e, K e = some r ∧ EffOK P o E H new e := by
  unfold eltLoadK at h
  split at h
  case h_2 => cases h
  rename_i blk hblk
  have hsure : ∀ (w : World) a r, (loadVar t a).run P w = .ok r w → (Instr.loadAt t (.pointer (some a))).run P w = .ok r w := fun w a r hr => by
    simp only [Instr.loadAt, Sem.run_bind, Instr.sureAddr, Result.andThen]
    exact hr
  split at h
  · rename_i s l hcells
    split at h
    case isFalse => cases h
    rename_i hs
    obtain ⟨hf, hw⟩ := hs
    split at h
    · cases h
    rename_i k hk
    rw [Option.bind_eq_some_iff] at h
    obtain ⟨y, hy, h⟩ := h
    split at h
    case h_2 => cases h
    rename_i a ha
    refine ⟨_, h, fun Γ ρ hp wd act hI hE hH hn hfree => lstep_of_ok ?_⟩
    have hv := hE x (by simp [hop, Op.operands])
    rw [hx] at hv
    simp only [VR] at hv
    obtain ⟨cb, co, cc, hρ, hv⟩ := hv
    have hb : hp.get b = .live blk := by rw [hH b (by simp)]; exact hblk
    have hca := hI.sim.cells b blk _ hb hρ
    rw [hcells] at hca
    obtain ⟨hk1, hk2⟩ := eltAt_some hk
    subst hw
    have hla := arr_lit hf hk2 hca hy
    obtain ⟨v, h1, h2⟩ := loadVar_lit (P := P) ha hla
    refine .pure hI v ?_ h2 rfl
    simp only [execOp, hop, hv]
    refine run_v (hsure wd _ v ?_)
    have e : co + (ofs + i * s.w + f) = co + k * s.w + f := by omega
    rw [e]; exact h1
  · rename_i s l hcells
    split at h
    case isFalse => cases h
    rename_i hs
    obtain ⟨hf, hw, hw1, hf0⟩ := hs
    subst hw1; subst hf0
    split at h
    case h_2 => cases h
    rename_i el hu
    split at h
    · cases h
    rename_i k hk
    obtain ⟨hk1, _⟩ := eltAt_some hk
    have hk1 : k = ofs + i := by omega
    subst hk1
    rw [Option.bind_eq_some_iff] at h
    obtain ⟨row, hy, h⟩ := h
    refine ⟨_, h, fun Γ ρ hp wd act hI hE hH hn hfree => lstep_of_ok ?_⟩
    have hv := hE x (by simp [hop, Op.operands])
    rw [hx] at hv
    simp only [VR] at hv
    obtain ⟨cb, co, cc, hρ, hv⟩ := hv
    have hb : hp.get b = .live blk := by rw [hH b (by simp)]; exact hblk
    have hca := hI.sim.cells b blk _ hb hρ
    rw [hcells] at hca
    obtain ⟨cv, h1, h2⟩ := hca _ row hy
    have hlen : (s.flatl row).length = row.length := by rw [flatl_length s hf, hw, Nat.mul_one]
    have hag : isAggD (.slice el) = false := rfl
    have hrun : (Instr.loadAt t (act.eval x)).run P wd = .ok cv wd := by
      rw [hv]
      refine hsure wd _ cv ?_
      have e : co + (ofs + i * 1 + 0) = co + (ofs + i) := by omega
      rw [e]
      simp only at h1
      simp only [loadVar, Sem.run_bind, run_isAgg hu, Result.andThen, hag, Bool.false_eq_true, if_false, run_load, h1]
    have hfr := hfree new (Nat.le_refl _) (by simp)
    have hexec : (execOp act.eval o).run P wd = .ok (.value cv) wd := by
      simp only [execOp, hop]
      exact run_v hrun
    rcases h2 with ⟨h3, a, h4⟩ | ⟨b', o', c', h3, h4, h5⟩
    · obtain ⟨k1, k2⟩ := hI.addArr hn hfr s row 0 0 (by rw [h3]; simp)
      refine ⟨_, _, cv, wd, hexec, .inl rfl, k1, ?_, k2⟩
      have : row.length = 0 := by rw [← hlen, h3]; rfl
      simp only [VR]; exact .inr ⟨this, a, h4⟩
    · obtain ⟨k1, k2⟩ := hI.addArr hn hfr s row b' o' h5
      refine ⟨_, _, cv, wd, hexec, .inl rfl, k1, ?_, k2⟩
      rw [hlen] at h3 h4
      simp only [VR]; exact .inl ⟨b', o', 0, c', by simp [Ren.put], h4, by rw [h3]; rfl⟩
  · cases h

/-! ### arithmetic that may not go -/
def binK {β : Type} (P : Program) (o : Oper) (E : Operand → AV) (op : BinOp) (x y : Operand) (K : Eff → Option β) (base : Option β) : Option β :=
  match op, E x, E y with
  | .quo, .val (.int k a), .val (.int k' b) => if k = k' then ifK (!decide (b = 0)) (K { val := .val (.int k (k.wrap (a.tdiv b))) }) else none
  | .rem, .val (.int k a), .val (.int k' b) => if k = k' then ifK (!decide (b = 0)) (K { val := .val (.int k (a.tmod b)) }) else none
  | .shl, .val (.int k a), .val (.int _ b) => ifK (decide (0 ≤ b)) (K { val := .val (.int k (k.wrap (a * 2 ^ min b.toNat k.bits))) })
  | .shr, .val (.int k a), .val (.int _ b) => ifK (decide (0 ≤ b)) (K { val := .val (.int k (a.fdiv (2 ^ min b.toNat k.bits))) })
  | _, _, _ => base

theorem binK_ok {β : Type} {P : Program} {o : Oper} {op : BinOp} {t yt : TypeId} {x y : Operand} (hop : o.op = .binOp op t x y yt) {E : Operand → AV} {H : Nat → Ent} {new : Nat} {K : Eff → Option β} {base : Option β} {r : β}
    (hbase : base = some r → ∃ e, K e = some r ∧ EffOK P o E H new e) (h : binK P o E op x y K base = some r) : ∃ e, K e = some r ∧ EffOK P o E H new e := by
  have fin : ∀ (e : Eff) (p : Pf), arith op (E x) (E y) (some p) = some { e with ob := e.ob } → (∀ q ∈ e.ob, q.holds) → ∀ e0 : Eff, e0.val = e.val → e0.wb = [] → EffOK P o E H new e0 := by
    intro e p hc hob e0 hv hw Γ ρ hp wd act hI hE _ _ _
    refine lstep_of_ok ?_
    obtain ⟨v, h1, h2, h3⟩ := arith_run (P := P) (t := t) hc hob (hE x (by simp [hop, Op.operands])) (hE y (by simp [hop, Op.operands])) wd x y
    refine .pure hI v ?_ (by rw [hv]; exact h2) hw
    simp only [execOp, hop]
    exact run_v h1
  unfold binK at h
  split at h
  · rename_i k a k' b hx hy
    split at h
    case isFalse => cases h
    rename_i hk; subst hk
    obtain ⟨hb, hK⟩ := ifK_some h
    have hb : b ≠ 0 := by simpa using hb
    refine ⟨_, hK, fin { val := .val (.int k (k.wrap (a.tdiv b))), ob := [.prop (b ≠ 0) (b ≠ 0)] } ⟨_, hb⟩ (by simp [arith, hx, hy]) (by simp [Ob.holds]) _ rfl rfl⟩
  · rename_i k a k' b hx hy
    split at h
    case isFalse => cases h
    rename_i hk; subst hk
    obtain ⟨hb, hK⟩ := ifK_some h
    have hb : b ≠ 0 := by simpa using hb
    refine ⟨_, hK, fin { val := .val (.int k (a.tmod b)), ob := [.prop (b ≠ 0) (b ≠ 0)] } ⟨_, hb⟩ (by simp [arith, hx, hy]) (by simp [Ob.holds]) _ rfl rfl⟩
  · rename_i k a k' b hx hy
    obtain ⟨hb, hK⟩ := ifK_some h
    have hb : 0 ≤ b := by simpa using hb
    refine ⟨_, hK, fin { val := .val (.int k (k.wrap (a * 2 ^ min b.toNat k.bits))), ob := [.prop (0 ≤ b) (0 ≤ b)] } ⟨_, hb⟩ (by simp [arith, hx, hy]) (by simp [Ob.holds]) _ rfl rfl⟩
  · rename_i k a k' b hx hy
    obtain ⟨hb, hK⟩ := ifK_some h
    have hb : 0 ≤ b := by simpa using hb
    refine ⟨_, hK, fin { val := .val (.int k (a.fdiv (2 ^ min b.toNat k.bits))), ob := [.prop (0 ≤ b) (0 ≤ b)] } ⟨_, hb⟩ (by simp [arith, hx, hy]) (by simp [Ob.holds]) _ rfl rfl⟩
  · exact hbase h

/-! ### any operation -/
def baseK {β : Type} (P : Program) (o : Oper) (E : Operand → AV) (H : Nat → Ent) (new : Nat) (K : Eff → Option β) : Option β :=
  match coreBase P o E H new none none with
  | some e => match e.ob with
    | [] => K e
    | _ => none
  | none => none
theorem baseK_ok {β : Type} {P : Program} {o : Oper} {E : Operand → AV} {H : Nat → Ent} {new : Nat} {K : Eff → Option β} {r : β} (h : baseK P o E H new K = some r) : ∃ e, K e = some r ∧ EffOK P o E H new e := by
  unfold baseK at h
  split at h
  case h_2 => cases h
  rename_i e he
  split at h
  case h_2 => cases h
  rename_i hob
  exact ⟨e, h, fun Γ ρ hp wd act hI hE hH hn hfree => lstep_of_ok (coreBase_ok hI hE he (by rw [hob]; simp) hH hn hfree)⟩

def callK {β : Type} {P : Program} (env : Env P) (as : Array Operand) (fo : Operand) (E : Operand → AV) (H : Nat → Ent) (new : Nat) (K : Eff → Option β) : Option β :=
  match E fo with
  | .fn (.func f) first cap => match env.find f with
    | some s => s.S H new (first ++ as.toList.map E ++ cap) K
    | none => none
  | _ => none
theorem callK_ok {β : Type} {P : Program} {env : Env P} {o : Oper} {fo : Operand} {as : Array Operand} {ts : Array TypeId} (hop : o.op = .call { callee := .value fo, args := as, argTypes := ts }) {E : Operand → AV} {H : Nat → Ent} {new : Nat} {K : Eff → Option β} {r : β}
    (h : callK env as fo E H new K = some r) : ∃ e, K e = some r ∧ EffOK P o E H new e := by
  unfold callK at h
  split at h
  case h_2 => cases h
  rename_i f first cap hfo
  split at h
  case h_2 => cases h
  rename_i s hs
  obtain ⟨e, hK, hok⟩ := s.ok _ _ _ _ _ h
  have hsf := env.find_f f s hs
  refine ⟨e, hK, fun Γ ρ hp w a hI hE hH hn hfree => ?_⟩
  have hfoC := hE fo (by simp [hop, Op.operands, Call.operands])
  rw [hfo] at hfoC
  simp only [VR] at hfoC
  obtain ⟨fs, cs, hCf, hfs, hcs⟩ := hfoC
  have hall : VRs ρ (first ++ as.toList.map E ++ cap) (fs ++ as.map a.eval ++ cs).toList := by
    simp only [Array.toList_append, Array.toList_map]
    exact (hfs.append (VRs.map _ fun x hx => hE x (by simp [hop, Op.operands, Call.operands]; exact .inr (by simpa using hx)))).append hcs
  have hinv := hok Γ ρ hp w _ hI hall hH hn hfree
  rw [hsf] at hinv
  intro K Qc hK
  unfold Oper.wp
  rw [run_callOp hop hCf]
  unfold Invokes at hinv
  generalize hrun : (callFunc f (fs ++ as.map a.eval ++ cs)).run P w = r at hinv
  cases r with
  | halt x w' => exact hinv.elim
  | ok nx w' =>
    cases nx with
    | enter g gs =>
      simp only at hinv
      show Calls P g gs w' _
      refine hinv.mono fun e w'' hR => ?_
      obtain ⟨ρ', cv, rfl, h1, h2, h3⟩ := hR
      exact hK ρ' w'' cv h1 h2 h3
    | value v =>
      simp only at hinv
      obtain ⟨ρ', cv, hv0, h1, h2, h3⟩ := hinv
      injection hv0 with hv0; subst hv0
      exact hK ρ' w' v h1 h2 h3
    | _ => exact hinv.elim

def opK {β : Type} (P : Program) (env : Env P) (o : Oper) (E : Operand → AV) (H : Nat → Ent) (new : Nat) (K : Eff → Option β) : Option β :=
  match o.op with
  | .call { callee := .value fo, args := as, .. } => callK env as fo E H new K
  | .indexAddr t x i => idxAddrK P t (E x) (E i) H K
  | .index t x i => idxK P t (E x) (E i) K
  | .load t x => (match E x with
    | .elt b k i w f => eltLoadK P t b k i w f H new K
    | _ => baseK P o E H new K)
  | .fieldAddr s x f => (match E x with
    | .elt b k i w g => (match fieldOf P s f with
      | none => none
      | some fd => match P.info? fd.type with
        | none => none
        | some i' => if i'.size = 0 then none else K { val := .elt b k i w (g + fd.offset) })
    | _ => baseK P o E H new K)
  | .binOp op _ x y _ => binK P o E op x y K (baseK P o E H new K)
  | _ => baseK P o E H new K

theorem opK_ok {β : Type} {P : Program} {env : Env P} {o : Oper} {E : Operand → AV} {H : Nat → Ent} {new : Nat} {K : Eff → Option β} {r : β} (h : opK P env o E H new K = some r) : ∃ e, K e = some r ∧ EffOK P o E H new e := by
  unfold opK at h
  split at h
  · rename_i fo as ts hop
    exact callK_ok hop h
  · rename_i t x i hop
    exact idxAddrK_ok hop h
  · rename_i t x i hop
    exact idxK_ok hop h
  · rename_i t x hop
    split at h
    · rename_i b k i w f hx
      exact eltLoadK_ok hop hx h
    · exact baseK_ok h
  · rename_i s x f hop
    split at h
    · rename_i b k i w g hx
      split at h
      · cases h
      rename_i fd hfd
      split at h
      · cases h
      rename_i i' hi'
      split at h
      · cases h
      rename_i hsz
      refine ⟨_, h, fun Γ ρ hp wd act hI hE hH hn hfree => lstep_of_ok ?_⟩
      have hv := hE x (by simp [hop, Op.operands])
      rw [hx] at hv
      have hv' : VR ρ (.ptr b (k + i * w + g)) (act.eval x) := by simpa [VR] using hv
      obtain ⟨ρ', nx, cv, w', h1, h2, h3, h4, h5⟩ := coreFieldAddr_ok (P := P) (s := s) (f := f) hI hv' (e := { val := .ptr b (k + i * w + g + fd.offset) }) (by simp [coreFieldAddr, hfd, hi', hsz])
      refine ⟨ρ', nx, cv, w', by simpa only [execOp, hop] using h1, h2, h3, ?_, h5⟩
      simp only [VR] at h4 ⊢
      obtain ⟨cb, co, cc, h6, h7⟩ := h4
      exact ⟨cb, co, cc, h6, by rw [h7]; congr 3; omega⟩
    · exact baseK_ok h
  · rename_i op t x y yt hop
    exact binK_ok hop baseK_ok h
  · exact baseK_ok h

end Go.Ab
