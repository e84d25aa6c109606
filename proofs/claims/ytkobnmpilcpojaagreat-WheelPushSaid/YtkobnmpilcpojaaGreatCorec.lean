/- An engine that names no program: what code does to what memory shows, evaluated over abstract values and an abstract heap, and that it is so. -/
import Derived.Test.YtkobnmpilcpojaaGreatCoreb
import Derived.Laws.StructEq
import Derived.Laws.BytesString
import Derived.Laws.Cover3
import Derived.Laws.IdiomStrings
import Derived.Lib.AppendStr
import Derived.Laws.CopyRow
import Derived.LoopNIn
import Derived.Scope
import Derived.RangeFuncLeaves
import Derived.RangeFuncRecord
set_option linter.unusedVariables false
set_option linter.unusedSimpArgs false
namespace Go.Ab
def EffOK (P : Program) (o : Oper) (E : Operand → AV) (H : Nat → Ent) (new : Nat) (e : Eff) : Prop :=
  ∀ (Γ : Ctx) (ρ : Ren) (h : Heap) (w : World) (a : Act), Inv Γ ρ h w → (∀ x ∈ o.op.operands, VR ρ (E x) (a.eval x)) → (∀ b ∈ e.rb, h.get b = H b) → Γ.n0 ≤ new → (∀ x, new ≤ x → x < new + e.nw → h.get x = .free) → LStep P Γ o ρ h w a e
def CallOK (P : Program) (f : FuncId) (args : List AV) (H : Nat → Ent) (new : Nat) (e : Eff) : Prop :=
  ∀ (Γ : Ctx) (ρ : Ren) (h : Heap) (w : World) (cargs : Array Value), Inv Γ ρ h w → VRs ρ args cargs.toList → (∀ b ∈ e.rb, h.get b = H b) → Γ.n0 ≤ new → (∀ x, new ≤ x → x < new + e.nw → h.get x = .free) →
    Invokes P f cargs w fun en w' => ∃ ρ' cv, en = .returned cv ∧ ρ.le ρ' ∧ VR ρ' e.val cv ∧ Inv Γ ρ' (h.upds e.wb) w'
structure Summ (P : Program) where
  f : FuncId
  S : {β : Type} → (Nat → Ent) → Nat → List AV → (Eff → Option β) → Option β
  ok : ∀ {β : Type} (H : Nat → Ent) (new : Nat) (args : List AV) (K : Eff → Option β) (r : β), S H new args K = some r → ∃ e, K e = some r ∧ CallOK P f args H new e
def Yields (P : Program) (l : Nat) (args : Array Value) (w : World) (R : Ending → World → Prop) : Prop :=
  ∃ fn tmps assign body, (Instr.yield l args).run P w = .ok (.round l fn tmps assign body) w ∧ RoundIn Fence.wide 0 P l fn tmps assign body w R
def YieldOK (P : Program) (Y : Ctx → Prop) (args : List AV) (H : Nat → Ent) (new : Nat) (e : Eff) : Prop :=
  ∀ (Γ : Ctx), Y Γ → ∀ (ρ : Ren) (h : Heap) (w : World) (cargs : Array Value), Inv Γ ρ h w → VRs ρ args cargs.toList → (∀ b ∈ e.rb, h.get b = H b) → Γ.n0 ≤ new → (∀ x, new ≤ x → x < new + e.nw → h.get x = .free) →
    Yields P ρ.base.drawn cargs w fun en w' => ∃ ρ' cv, en = .returned cv ∧ ρ.le ρ' ∧ VR ρ' e.val cv ∧ Inv Γ ρ' (h.upds e.wb) w'
def Stable (Y : Ctx → Prop) : Prop := ∀ (Γ : Ctx) (ρ : Ren) (h : Heap) (w : World), Y Γ → Inv Γ ρ h w → Γ.n0 ≤ h.length → Y ⟨h.length, ρ, h, w⟩
structure YSumm (P : Program) where
  Y : Ctx → Prop
  stable : Stable Y
  S : {β : Type} → (Nat → Ent) → Nat → List AV → (Eff → Option β) → Option β
  ok : ∀ {β : Type} (H : Nat → Ent) (new : Nat) (args : List AV) (K : Eff → Option β) (r : β), S H new args K = some r → ∃ e, K e = some r ∧ YieldOK P Y args H new e
structure Env (P : Program) where
  l : List (Summ P)
  y : Option (YSumm P)
instance {P : Program} : Coe (List (Summ P)) (Env P) := ⟨fun l => ⟨l, none⟩⟩
def YSumm.at_ {P : Program} : Option (YSumm P) → Ctx → Prop
  | none => fun _ => True
  | some s => s.Y
def Env.Y {P : Program} (env : Env P) : Ctx → Prop := YSumm.at_ env.y
theorem Env.stable {P : Program} (env : Env P) : Stable env.Y := by
  unfold Env.Y
  cases env.y with
  | none => exact fun _ _ _ _ _ _ _ => trivial
  | some s => exact s.stable
def findS {P : Program} : List (Summ P) → FuncId → Option (Summ P)
  | [], _ => none
  | s :: l, f => if s.f = f then some s else findS l f
def Env.find {P : Program} (env : Env P) (f : FuncId) : Option (Summ P) := findS env.l f
theorem findS_f {P : Program} : ∀ (l : List (Summ P)) (f : FuncId) (s : Summ P), findS l f = some s → s.f = f
  | [], f, s, h => by simp [findS] at h
  | x :: l, f, s, h => by
    simp only [findS] at h
    split at h
    · rename_i hf; injection h with h; subst h; exact hf
    · exact findS_f l f s h
theorem Env.find_f {P : Program} (l : Env P) (f : FuncId) (s : Summ P) (h : l.find f = some s) : s.f = f := findS_f _ f s h
def EffOKY (P : Program) (Y : Ctx → Prop) (o : Oper) (E : Operand → AV) (H : Nat → Ent) (new : Nat) (e : Eff) : Prop :=
  ∀ (Γ : Ctx), Y Γ → ∀ (ρ : Ren) (h : Heap) (w : World) (a : Act), Inv Γ ρ h w → (∀ x ∈ o.op.operands, VR ρ (E x) (a.eval x)) → (∀ b ∈ e.rb, h.get b = H b) → Γ.n0 ≤ new → (∀ x, new ≤ x → x < new + e.nw → h.get x = .free) → LStep P Γ o ρ h w a e
theorem EffOK.y {P : Program} {Y : Ctx → Prop} {o : Oper} {E : Operand → AV} {H : Nat → Ent} {new : Nat} {e : Eff} (h : EffOK P o E H new e) : EffOKY P Y o E H new e := fun Γ _ => h Γ
theorem effOK_y {β : Type} {P : Program} {Y : Ctx → Prop} {o : Oper} {E : Operand → AV} {H : Nat → Ent} {new : Nat} {K : Eff → Option β} {r : β} (h : ∃ e, K e = some r ∧ EffOK P o E H new e) : ∃ e, K e = some r ∧ EffOKY P Y o E H new e := by
  obtain ⟨e, h1, h2⟩ := h
  exact ⟨e, h1, h2.y⟩
def selK {β : Type} (i : Int) : Nat → Nat → (Nat → Option β) → Option β
  | _, 0, _ => none
  | j, n + 1, K => bif decide (i = (j : Int)) then K j else selK i (j + 1) n K
theorem selK_some {β : Type} {i : Int} {K : Nat → Option β} {r : β} : ∀ (n j : Nat), selK i j n K = some r → ∃ k, j ≤ k ∧ k < j + n ∧ i = (k : Int) ∧ K k = some r
  | 0, j, h => by simp [selK] at h
  | n + 1, j, h => by
    simp only [selK] at h
    cases hd : decide (i = (j : Int)) with
    | true => rw [hd] at h; exact ⟨j, Nat.le_refl _, by omega, by simpa using hd, h⟩
    | false =>
      rw [hd] at h
      obtain ⟨k, h1, h2, h3, h4⟩ := selK_some n (j + 1) h
      exact ⟨k, by omega, by omega, h3, h4⟩
def isArr : Ent → Bool
  | .live blk => match blk.cells with
    | .arr _ _ => true
    | .arrs _ _ => true
    | _ => false
  | _ => false
def idxAddrK {β : Type} (P : Program) (t : TypeId) (x i : AV) (H : Nat → Ent) (K : Eff → Option β) : Option β :=
  match intOfA i with
  | none => none
  | some n => match x, P.underlying t with
    | .ptr b o, some (.array len el) => (match P.info? el with
      | none => none
      | some ie => match isArr (H b) with
        | true => ifK (decide (0 ≤ n) && decide (n < (len : Int))) (K { val := .elt b o n.toNat ie.size 0 })
        | false => selK n 0 len fun j => K { val := .ptr b (o + j * ie.size) })
    | .slc b o len c, some (.slice el) => (match P.info? el with
      | none => none
      | some ie => match isArr (H b) with
        | true => ifK (decide (0 ≤ n) && decide (n < (len : Int))) (K { val := .elt b o n.toNat ie.size 0 })
        | false => selK n 0 len fun j => K { val := .ptr b (o + j * ie.size) })
    | _, _ => none
theorem idxAddrK_ok {β : Type} {P : Program} {o : Oper} {t : TypeId} {x i : Operand} (hop : o.op = .indexAddr t x i) {E : Operand → AV} {H : Nat → Ent} {new : Nat} {K : Eff → Option β} {r : β} (h : idxAddrK P t (E x) (E i) H K = some r) : ∃ e, K e = some r ∧ EffOK P o E H new e := by
  unfold idxAddrK at h
  split at h
  · cases h
  rename_i n hn
  have fin : ∀ (e : Eff) (len : Nat), e.wb = [] → (0 ≤ n ∧ n < (len : Int)) → (∀ chk, coreIndexAddr P t (E x) (E i) chk = need chk (0 ≤ n ∧ n < (len : Int)) { val := (match (E x) with | .ptr b o => .ptr b (o + n.toNat * ((P.info? (match P.underlying t with | some (.array _ el) => el | some (.slice el) => el | _ => 0)).map (·.size)).getD 0) | .slc b o _ _ => .ptr b (o + n.toNat * ((P.info? (match P.underlying t with | some (.array _ el) => el | some (.slice el) => el | _ => 0)).map (·.size)).getD 0) | a => a) }) →
      (∀ ρ cv, VR ρ (match (E x) with | .ptr b o => .ptr b (o + n.toNat * ((P.info? (match P.underlying t with | some (.array _ el) => el | some (.slice el) => el | _ => 0)).map (·.size)).getD 0) | .slc b o _ _ => .ptr b (o + n.toNat * ((P.info? (match P.underlying t with | some (.array _ el) => el | some (.slice el) => el | _ => 0)).map (·.size)).getD 0) | a => a) cv → VR ρ e.val cv) → EffOK P o E H new e := by
    intro e len hw hb hc hv Γ ρ h w a hI hE _ _ _
    have hok := coreIndexAddr_ok (P := P) (t := t) hI (hE x (by simp [hop, Op.operands])) (hE i (by simp [hop, Op.operands])) (chk := some ⟨_, hb⟩) (by rw [hc (some ⟨_, hb⟩)]; rfl) (by
      intro q hq
      simp at hq; subst hq; rfl)
    refine lstep_of_ok ?_
    obtain ⟨ρ', nx, cv, w', h1, h2, h3, h4, h5⟩ := hok
    refine ⟨ρ', nx, cv, w', by simpa only [execOp, hop] using h1, h2, h3, hv ρ' cv h4, ?_⟩
    rw [hw]; exact h5
  split at h
  · rename_i b ofs len el hx hu
    split at h
    · cases h
    rename_i ie hie
    split at h
    · obtain ⟨hb, hk⟩ := ifK_some h
      simp only [Bool.and_eq_true, decide_eq_true_eq] at hb
      refine ⟨_, hk, fin _ len rfl hb (fun chk => ?_) fun ρ cv hv => ?_⟩
      · simp only [coreIndexAddr, hn, Option.bind_some, hx, hu, hie, Option.map_some, Option.getD_some]
      · simp only [hx, hu, hie, Option.map_some, Option.getD_some, VR] at hv
        simpa [VR] using hv
    · obtain ⟨k, h1, h2, h3, hk⟩ := selK_some _ _ h
      refine ⟨_, hk, fin _ len rfl (by omega) (fun chk => ?_) fun ρ cv hv => ?_⟩
      · simp only [coreIndexAddr, hn, Option.bind_some, hx, hu, hie, Option.map_some, Option.getD_some]
      · simp only [hx, hu, hie, Option.map_some, Option.getD_some] at hv
        rw [h3] at hv; simpa using hv
  · rename_i b ofs len c el hx hu
    split at h
    · cases h
    rename_i ie hie
    split at h
    · obtain ⟨hb, hk⟩ := ifK_some h
      simp only [Bool.and_eq_true, decide_eq_true_eq] at hb
      refine ⟨_, hk, fin _ len rfl hb (fun chk => ?_) fun ρ cv hv => ?_⟩
      · simp only [coreIndexAddr, hn, Option.bind_some, hx, hu, hie, Option.map_some, Option.getD_some]
      · simp only [hx, hu, hie, Option.map_some, Option.getD_some, VR] at hv
        simpa [VR] using hv
    · obtain ⟨k, h1, h2, h3, hk⟩ := selK_some _ _ h
      refine ⟨_, hk, fin _ len rfl (by omega) (fun chk => ?_) fun ρ cv hv => ?_⟩
      · simp only [coreIndexAddr, hn, Option.bind_some, hx, hu, hie, Option.map_some, Option.getD_some]
      · simp only [hx, hu, hie, Option.map_some, Option.getD_some] at hv
        rw [h3] at hv; simpa using hv
  · cases h
def idxK {β : Type} (P : Program) (t : TypeId) (x i : AV) (K : Eff → Option β) : Option β :=
  match intOfA i with
  | none => none
  | some n => match x, P.underlying t with
    | .agg cs, some (.array len el) => (match P.info? el with
      | none => none
      | some ie => selK n 0 len fun j => (match partA P el cs (j * ie.size) with
        | some r => K { val := r }
        | none => none))
    | .val (.string s), some .string => ifK (decide (0 ≤ n) && decide (n < (s.size : Int))) (K { val := .val (.int .u8 ((s.data.toList.getD n.toNat 0).toNat : Int)) })
    | _, _ => none
theorem idxK_ok {β : Type} {P : Program} {o : Oper} {t : TypeId} {x i : Operand} (hop : o.op = .index t x i) {E : Operand → AV} {H : Nat → Ent} {new : Nat} {K : Eff → Option β} {r : β} (h : idxK P t (E x) (E i) K = some r) : ∃ e, K e = some r ∧ EffOK P o E H new e := by
  unfold idxK at h
  split at h
  · cases h
  rename_i n hn
  have fin : ∀ (e : Eff) (p : Prop) [Decidable p] (pf : p), e.wb = [] → e.ob = [] → coreIndex P t (E x) (E i) (some ⟨p, pf⟩) = need (some ⟨p, pf⟩) p e → EffOK P o E H new e := by
    intro e p _ pf hw hob hc Γ ρ h w a hI hE _ _ _
    have hok := coreIndex_ok (P := P) (t := t) hI (hE x (by simp [hop, Op.operands])) (hE i (by simp [hop, Op.operands])) (chk := some ⟨p, pf⟩) (by rw [hc]; rfl) (by
      intro q hq
      simp [hob] at hq; subst hq; rfl)
    refine lstep_of_ok ?_
    obtain ⟨ρ', nx, cv, w', h1, h2, h3, h4, h5⟩ := hok
    exact ⟨ρ', nx, cv, w', by simpa only [execOp, hop] using h1, h2, h3, h4, h5⟩
  split at h
  · rename_i cs len el hx hu
    split at h
    · cases h
    rename_i ie hie
    obtain ⟨k, h1, h2, h3, hk⟩ := selK_some _ _ h
    split at hk
    case h_2 => cases hk
    rename_i v hv
    have hb : 0 ≤ n ∧ n < (len : Int) := by omega
    refine ⟨_, hk, fin _ _ hb rfl rfl ?_⟩
    have hkn : n.toNat = k := by omega
    simp only [coreIndex, hn, Option.bind_some, hx, hu, hie, hkn, hv]
  · rename_i s hx hu
    obtain ⟨hb, hk⟩ := ifK_some h
    simp only [Bool.and_eq_true, decide_eq_true_eq] at hb
    refine ⟨_, hk, fin _ _ hb rfl rfl ?_⟩
    simp only [coreIndex, hn, Option.bind_some, hx, hu]
  · cases h
def eltAt (w o i : Nat) : Option Nat :=
  if w = 0 then none else if w = 1 then some (o + i) else match o with
    | 0 => some i
    | o' + 1 => if (o' + 1) % w = 0 then some ((o' + 1) / w + i) else none
theorem eltAt_some {w o i k : Nat} (h : eltAt w o i = some k) : o + i * w = k * w ∧ 0 < w := by
  unfold eltAt at h
  split at h
  · cases h
  rename_i h1
  split at h
  · rename_i hw; injection h with h; subst h; subst hw; simp
  split at h
  · injection h with h; subst h; exact ⟨by simp, by omega⟩
  · split at h
    · rename_i h2 h3
      injection h with h; subst h
      refine ⟨?_, by omega⟩
      rw [Nat.add_mul, Nat.div_mul_cancel (Nat.dvd_of_mod_eq_zero h3)]
    · cases h
theorem flatl_get {s : Sh} (hf : s.flat = true) (hw : 0 < s.w) {l : List s.T} {k : Nat} {y : s.T} (hk : l[k]? = some y) {j : Nat} {v : Value} (hj : (s.enc y)[j]? = some v) : (s.flatl l)[k * s.w + j]? = some v := by
  have hjw : j < s.w := by
    have := enc_length s y hf
    rcases Nat.lt_or_ge j (s.enc y).length with h' | h'
    · omega
    · simp [List.getElem?_eq_none h'] at hj
  induction l generalizing k with
  | nil => simp at hk
  | cons z l ih =>
    have hz := enc_length s z hf
    simp only [Sh.flatl, List.flatMap_cons]
    cases k with
    | zero =>
      simp at hk; subst hk
      rw [List.getElem?_append_left (by omega)]; simpa using hj
    | succ k =>
      rw [List.getElem?_append_right (by rw [hz, Nat.add_mul]; omega), hz]
      have := ih (by simpa using hk)
      simp only [Sh.flatl] at this
      rw [show (k + 1) * s.w + j - s.w = k * s.w + j by rw [Nat.add_mul]; omega]
      exact this
def eltLoadK {β : Type} (P : Program) (t : TypeId) (b o i w f : Nat) (H : Nat → Ent) (new : Nat) (K : Eff → Option β) : Option β :=
  match H b with
  | .live blk => match blk.cells with
    | .arr s l => if s.flat = true ∧ s.w = w then (match eltAt w o i with
      | none => none
      | some k => (l[k]?).bind fun y => match partA P t ((s.enc y).map .val) f with
        | some a => K { rb := [b], val := a }
        | none => none) else none
    | .arrs s l => if s.flat = true ∧ s.w = 1 ∧ w = 1 ∧ f = 0 then (match P.underlying t with
      | some (.slice _) => (match eltAt 1 o i with
        | none => none
        | some k => (l[k]?).bind fun r => K { rb := [b], wb := [(new, .live { cells := .arr s r, rw := false })], nw := 1, val := .slc new 0 r.length .low })
      | _ => none) else none
    | _ => none
  | _ => none
theorem arr_lit {ρ : Ren} {w : World} {cb co : Nat} {s : Sh} {l : List s.T} (hf : s.flat = true) (hw : 0 < s.w) (hc : CellsAt ρ w cb co (.arr s l)) {k : Nat} {y : s.T} (hk : l[k]? = some y) : CellsAt ρ w cb (co + k * s.w) (.lit ((s.enc y).map .val)) := by
  intro j v hj
  simp only [List.getElem?_map, Option.map_eq_some_iff] at hj
  obtain ⟨u, h1, rfl⟩ := hj
  exact ⟨u, by have := hc _ _ (flatl_get hf hw hk h1); rw [Nat.add_assoc]; exact this, by simp [VR]⟩
theorem Inv.addArr {Γ : Ctx} {ρ : Ren} {h : Heap} {w : World} (hI : Inv Γ ρ h w) {new : Nat} (hn : Γ.n0 ≤ new) (hfree : h.get new = .free) (s : Sh) (r : List s.T) (cb co : Nat) (hr : ∀ (j : Nat) (v : Value), (s.flatl r)[j]? = some v → ρ.base.cell? ⟨cb, co + j, none⟩ = some v) :
    ρ.le (ρ.put new (cb, co, 0)) ∧ Inv Γ (ρ.put new (cb, co, 0)) (h.upd new (.live { cells := .arr s r, rw := false })) w := by
  obtain ⟨h1, h2⟩ := hI.addRo hn hfree (s.flatl r) cb co hr
  refine ⟨h1, ?_⟩
  have sw : ∀ x blk, (h.upd new (.live { cells := .arr s r, rw := false })).get x = .live blk → ∃ blk', (h.upd new (.live { cells := .sym (s.flatl r), rw := false })).get x = .live blk' ∧ blk'.rw = blk.rw ∧ blk'.grow = blk.grow ∧ blk'.cells.len = blk.cells.len ∧ (∀ ρ w cb co, CellsAt ρ w cb co blk'.cells → CellsAt ρ w cb co blk.cells) := by
    intro x blk hx
    rw [Heap.get_upd] at hx ⊢
    by_cases hxn : x = new
    · rw [if_pos hxn] at hx ⊢
      injection hx with hx; subst hx
      exact ⟨_, rfl, rfl, rfl, rfl, fun ρ w cb co h => h⟩
    · rw [if_neg hxn] at hx ⊢
      exact ⟨blk, hx, rfl, rfl, rfl, fun _ _ _ _ h => h⟩
  have sol : ∀ (blk blk' : Blk) c, blk'.rw = blk.rw → blk'.cells.len = blk.cells.len → blk.solid c → blk'.solid c := fun blk blk' c e1 e2 hs => by
    unfold Blk.solid at *
    rw [e1, e2]; exact hs
  refine ⟨⟨fun x blk hx => ?_, fun x blk c hx hc => ?_, fun x blk c hx hc hs => ?_, fun x blk c hx hc hr hs => ?_, fun x y xb yb c d hx hy hne hc hd hr hs hs' => ?_, fun x hx => ?_, h2.sim.baseLe, h2.sim.old, fun x blk c hx hc hr hs => ?_⟩, h2.agree, h2.sameBase, h2.os, h2.tape, h2.output, h2.size, h2.keep, fun x blk c hx hc hr hs => ?_⟩
  · obtain ⟨blk', h3, _⟩ := sw x blk hx; exact h2.sim.some_ x blk' h3
  · obtain ⟨blk', h3, _, _, _, h4⟩ := sw x blk hx; exact h4 _ _ _ _ (h2.sim.cells x blk' c h3 hc)
  · obtain ⟨blk', h3, e1, _, e2, _⟩ := sw x blk hx; exact h2.sim.inside x blk' c h3 hc (sol _ _ _ e1 e2 hs)
  · obtain ⟨blk', h3, e1, e3, e2, _⟩ := sw x blk hx
    obtain ⟨k1, cs, el, k2, k3, k4⟩ := h2.sim.own x blk' c h3 hc (e1.trans hr) (sol _ _ _ e1 e2 hs)
    exact ⟨k1, cs, el, k2, by rw [← e2]; exact k3, by rw [← e3]; exact k4⟩
  · obtain ⟨xb', h3, e1, _, e2, _⟩ := sw x xb hx
    obtain ⟨yb', h3', e1', _, e2', _⟩ := sw y yb hy
    exact h2.sim.apart x y xb' yb' c d h3 h3' hne hc hd (e1.trans hr) (sol _ _ _ e1 e2 hs) (sol _ _ _ e1' e2' hs')
  · refine h2.sim.dom x ?_
    rw [Heap.get_upd] at hx ⊢
    split at hx
    · cases hx
    · rename_i hxn; rw [if_neg hxn]; exact hx
  · obtain ⟨blk', h3, e1, _, e2, _⟩ := sw x blk hx; exact h2.sim.above x blk' c h3 hc (e1.trans hr) (sol _ _ _ e1 e2 hs)
  · obtain ⟨blk', h3, e1, _, e2, _⟩ := sw x blk hx; exact h2.fresh x blk' c h3 hc (e1.trans hr) (sol _ _ _ e1 e2 hs)
theorem eltLoadK_ok {β : Type} {P : Program} {o : Oper} {t : TypeId} {x : Operand} (hop : o.op = .load t x) {E : Operand → AV} {b ofs i w f : Nat} (hx : E x = .elt b ofs i w f) {H : Nat → Ent} {new : Nat} {K : Eff → Option β} {r : β} (h : eltLoadK P t b ofs i w f H new K = some r) : ∃ e, K e = some r ∧ EffOK P o E H new e := by
  unfold eltLoadK at h
  split at h
  case h_2 => cases h
  rename_i blk hblk
  have hsure : ∀ (w : World) a r, (loadVar t a).run P w = .ok r w → (Instr.loadAt t (.pointer (some a))).run P w = .ok r w := fun w a r hr => by
    simp only [Instr.loadAt, Sem.run_bind, Instr.sureAddr, Result.andThen]
    exact hr
  split at h
  · rename_i s l hcells
    split at h
    case isFalse => cases h
    rename_i hs
    obtain ⟨hf, hw⟩ := hs
    split at h
    · cases h
    rename_i k hk
    rw [Option.bind_eq_some_iff] at h
    obtain ⟨y, hy, h⟩ := h
    split at h
    case h_2 => cases h
    rename_i a ha
    refine ⟨_, h, fun Γ ρ hp wd act hI hE hH hn hfree => lstep_of_ok ?_⟩
    have hv := hE x (by simp [hop, Op.operands])
    rw [hx] at hv
    simp only [VR] at hv
    obtain ⟨cb, co, cc, hρ, hv⟩ := hv
    have hb : hp.get b = .live blk := by rw [hH b (by simp)]; exact hblk
    have hca := hI.sim.cells b blk _ hb hρ
    rw [hcells] at hca
    obtain ⟨hk1, hk2⟩ := eltAt_some hk
    subst hw
    have hla := arr_lit hf hk2 hca hy
    obtain ⟨v, h1, h2⟩ := loadVar_lit (P := P) ha hla
    refine .pure hI v ?_ h2 rfl
    simp only [execOp, hop, hv]
    refine run_v (hsure wd _ v ?_)
    have e : co + (ofs + i * s.w + f) = co + k * s.w + f := by omega
    rw [e]; exact h1
  · rename_i s l hcells
    split at h
    case isFalse => cases h
    rename_i hs
    obtain ⟨hf, hw, hw1, hf0⟩ := hs
    subst hw1; subst hf0
    split at h
    case h_2 => cases h
    rename_i el hu
    split at h
    · cases h
    rename_i k hk
    obtain ⟨hk1, _⟩ := eltAt_some hk
    have hk1 : k = ofs + i := by omega
    subst hk1
    rw [Option.bind_eq_some_iff] at h
    obtain ⟨row, hy, h⟩ := h
    refine ⟨_, h, fun Γ ρ hp wd act hI hE hH hn hfree => lstep_of_ok ?_⟩
    have hv := hE x (by simp [hop, Op.operands])
    rw [hx] at hv
    simp only [VR] at hv
    obtain ⟨cb, co, cc, hρ, hv⟩ := hv
    have hb : hp.get b = .live blk := by rw [hH b (by simp)]; exact hblk
    have hca := hI.sim.cells b blk _ hb hρ
    rw [hcells] at hca
    obtain ⟨cv, h1, h2⟩ := hca _ row hy
    have hlen : (s.flatl row).length = row.length := by rw [flatl_length s hf, hw, Nat.mul_one]
    have hag : isAggD (.slice el) = false := rfl
    have hrun : (Instr.loadAt t (act.eval x)).run P wd = .ok cv wd := by
      rw [hv]
      refine hsure wd _ cv ?_
      have e : co + (ofs + i * 1 + 0) = co + (ofs + i) := by omega
      rw [e]
      simp only at h1
      simp only [loadVar, Sem.run_bind, run_isAgg hu, Result.andThen, hag, Bool.false_eq_true, if_false, run_load, h1]
    have hfr := hfree new (Nat.le_refl _) (by simp)
    have hexec : (execOp act.eval o).run P wd = .ok (.value cv) wd := by
      simp only [execOp, hop]
      exact run_v hrun
    rcases h2 with ⟨h3, a, h4⟩ | ⟨b', o', c', h3, h4, h5⟩
    · obtain ⟨k1, k2⟩ := hI.addArr hn hfr s row 0 0 (by rw [h3]; simp)
      refine ⟨_, _, cv, wd, hexec, .inl rfl, k1, ?_, k2⟩
      have : row.length = 0 := by rw [← hlen, h3]; rfl
      simp only [VR]; exact .inr ⟨this, a, h4⟩
    · obtain ⟨k1, k2⟩ := hI.addArr hn hfr s row b' o' h5
      refine ⟨_, _, cv, wd, hexec, .inl rfl, k1, ?_, k2⟩
      rw [hlen] at h3 h4
      simp only [VR]; exact .inl ⟨b', o', 0, c', by simp [Ren.put], h4, by rw [h3]; rfl⟩
  · cases h
def binK {β : Type} (P : Program) (o : Oper) (E : Operand → AV) (op : BinOp) (x y : Operand) (K : Eff → Option β) (base : Option β) : Option β :=
  match op, E x, E y with
  | .quo, .val (.int k a), .val (.int k' b) => if k = k' then ifK (!decide (b = 0)) (K { val := .val (.int k (k.wrap (a.tdiv b))) }) else none
  | .rem, .val (.int k a), .val (.int k' b) => if k = k' then ifK (!decide (b = 0)) (K { val := .val (.int k (a.tmod b)) }) else none
  | .shl, .val (.int k a), .val (.int _ b) => ifK (decide (0 ≤ b)) (K { val := .val (.int k (k.wrap (a * 2 ^ min b.toNat k.bits))) })
  | .shr, .val (.int k a), .val (.int _ b) => ifK (decide (0 ≤ b)) (K { val := .val (.int k (a.fdiv (2 ^ min b.toNat k.bits))) })
  | _, _, _ => base
theorem binK_ok {β : Type} {P : Program} {o : Oper} {op : BinOp} {t yt : TypeId} {x y : Operand} (hop : o.op = .binOp op t x y yt) {E : Operand → AV} {H : Nat → Ent} {new : Nat} {K : Eff → Option β} {base : Option β} {r : β}
    (hbase : base = some r → ∃ e, K e = some r ∧ EffOK P o E H new e) (h : binK P o E op x y K base = some r) : ∃ e, K e = some r ∧ EffOK P o E H new e := by
  have fin : ∀ (e : Eff) (p : Pf), arith op (E x) (E y) (some p) = some { e with ob := e.ob } → (∀ q ∈ e.ob, q.holds) → ∀ e0 : Eff, e0.val = e.val → e0.wb = [] → EffOK P o E H new e0 := by
    intro e p hc hob e0 hv hw Γ ρ hp wd act hI hE _ _ _
    refine lstep_of_ok ?_
    obtain ⟨v, h1, h2, h3⟩ := arith_run (P := P) (t := t) hc hob (hE x (by simp [hop, Op.operands])) (hE y (by simp [hop, Op.operands])) wd x y
    refine .pure hI v ?_ (by rw [hv]; exact h2) hw
    simp only [execOp, hop]
    exact run_v h1
  unfold binK at h
  split at h
  · rename_i k a k' b hx hy
    split at h
    case isFalse => cases h
    rename_i hk; subst hk
    obtain ⟨hb, hK⟩ := ifK_some h
    have hb : b ≠ 0 := by simpa using hb
    refine ⟨_, hK, fin { val := .val (.int k (k.wrap (a.tdiv b))), ob := [.prop (b ≠ 0) (b ≠ 0)] } ⟨_, hb⟩ (by simp [arith, hx, hy]) (by simp [Ob.holds]) _ rfl rfl⟩
  · rename_i k a k' b hx hy
    split at h
    case isFalse => cases h
    rename_i hk; subst hk
    obtain ⟨hb, hK⟩ := ifK_some h
    have hb : b ≠ 0 := by simpa using hb
    refine ⟨_, hK, fin { val := .val (.int k (a.tmod b)), ob := [.prop (b ≠ 0) (b ≠ 0)] } ⟨_, hb⟩ (by simp [arith, hx, hy]) (by simp [Ob.holds]) _ rfl rfl⟩
  · rename_i k a k' b hx hy
    obtain ⟨hb, hK⟩ := ifK_some h
    have hb : 0 ≤ b := by simpa using hb
    refine ⟨_, hK, fin { val := .val (.int k (k.wrap (a * 2 ^ min b.toNat k.bits))), ob := [.prop (0 ≤ b) (0 ≤ b)] } ⟨_, hb⟩ (by simp [arith, hx, hy]) (by simp [Ob.holds]) _ rfl rfl⟩
  · rename_i k a k' b hx hy
    obtain ⟨hb, hK⟩ := ifK_some h
    have hb : 0 ≤ b := by simpa using hb
    refine ⟨_, hK, fin { val := .val (.int k (a.fdiv (2 ^ min b.toNat k.bits))), ob := [.prop (0 ≤ b) (0 ≤ b)] } ⟨_, hb⟩ (by simp [arith, hx, hy]) (by simp [Ob.holds]) _ rfl rfl⟩
  · exact hbase h
def optInt (E : Operand → AV) (d : Int) : Option Operand → Option Int
  | none => some d
  | some x => intOfA (E x)
def sliceK {β : Type} (P : Program) (t : TypeId) (E : Operand → AV) (x : Operand) (lo hi : Option Operand) (K : Eff → Option β) : Option β :=
  match E x, P.underlying t with
  | .slc b o n cp, some (.slice el) => (match P.info? el with
    | none => none
    | some ie => (match optInt E 0 lo, optInt E n hi with
      | some l, some h => ifK (decide (0 ≤ l) && (decide (l ≤ h) && decide (h ≤ (n : Int)))) (K { val := (match lo with
          | none => .slc b o h.toNat (match cp with
            | .unk => .unk
            | _ => .part)
          | some _ => .slc b (if ie.size = 1 then o + l.toNat else o + l.toNat * ie.size) (h - l).toNat .part) })
      | _, _ => none))
  | .val (.slice none 0 0), some (.slice el) => (match P.info? el with
    | none => none
    | some ie => (match optInt E 0 lo, optInt E 0 hi with
      | some l, some h => ifK (decide (l = 0) && decide (h = 0)) (K { val := .val (.slice none 0 0) })
      | _, _ => none))
  | .val (.string s), some .string => (match optInt E 0 lo, optInt E s.size hi with
    | some l, some h => ifK (decide (0 ≤ l) && (decide (l ≤ h) && decide (h ≤ (s.size : Int)))) (K { val := .val (.string (s.extract l.toNat h.toNat)) })
    | _, _ => none)
  | _, _ => none
theorem run_bounds {P : Program} {w : World} (isS : Bool) (n c : Nat) (l h : Int) (hn : n ≤ c) (h0 : 0 ≤ l) (h1 : l ≤ h) (h2 : h ≤ (n : Int)) (lo hi : Option Value) (hlo : (lo = none ∧ l = 0) ∨ ∃ k, lo = some (.int k l)) (hhi : (hi = none ∧ h = n) ∨ ∃ k, hi = some (.int k h)) :
    (Instr.sliceBounds isS n c lo hi none).run P w = .ok (l.toNat, h.toNat, c) w := by
  have b1 : ∀ (y : Nat) (code : BoundsCode) (k : IntKind) (i : Int), 0 ≤ i → i ≤ (y : Int) → (Instr.sliceBound (.int k i) y code).run P w = .ok i.toNat w := fun y code k i g1 g2 => by
    unfold Instr.sliceBound
    simp only [Sem.run_bind, asIntOf]
    show (if 0 ≤ i ∧ i ≤ (y : Int) then pure i.toNat else boundsPanic k i y code : Sem Nat).run P w = _
    rw [if_pos ⟨g1, g2⟩]; rfl
  have ht : ((n : Int)).toNat = n := by simp
  rcases hlo with ⟨rfl, rfl⟩ | ⟨k, rfl⟩ <;> rcases hhi with ⟨rfl, rfl⟩ | ⟨k', rfl⟩
  · simp only [Instr.sliceBounds, Sem.run_bind, Sem.run_pure, Result.andThen, ht]
    rfl
  · simp only [Instr.sliceBounds, Sem.run_bind, Sem.run_pure, Result.andThen, b1 c _ k' h (by omega) (by omega)]
    rfl
  · simp only [Instr.sliceBounds, Sem.run_bind, Sem.run_pure, Result.andThen, b1 n _ k l h0 h1, ht]
  · simp only [Instr.sliceBounds, Sem.run_bind, Sem.run_pure, Result.andThen, b1 c _ k' h (by omega) (by omega), b1 h.toNat _ k l h0 (by omega)]
theorem optInt_ok {ρ : Ren} {E : Operand → AV} {d l : Int} {x : Option Operand} {C : Operand → Value} (h : optInt E d x = some l) (hv : ∀ y, x = some y → VR ρ (E y) (C y)) : (x.map C = none ∧ l = d) ∨ ∃ k, x.map C = some (.int k l) := by
  cases x with
  | none => simp only [optInt] at h; injection h with h; exact .inl ⟨rfl, h.symm⟩
  | some y =>
    simp only [optInt] at h
    obtain ⟨k, hk⟩ := intOfA_some h (hv y rfl)
    exact .inr ⟨k, by simp [hk]⟩
theorem sliceK_ok {β : Type} {P : Program} {o : Oper} {t : TypeId} {x : Operand} {lo hi : Option Operand} (hop : o.op = .slice t x lo hi none) {E : Operand → AV} {H : Nat → Ent} {new : Nat} {K : Eff → Option β} {r : β} (h : sliceK P t E x lo hi K = some r) : ∃ e, K e = some r ∧ EffOK P o E H new e := by
  have ops : ∀ (a : Act) (ρ : Ren), (∀ z ∈ o.op.operands, VR ρ (E z) (a.eval z)) → VR ρ (E x) (a.eval x) ∧ (∀ y, lo = some y → VR ρ (E y) (a.eval y)) ∧ ∀ y, hi = some y → VR ρ (E y) (a.eval y) := fun a ρ hE => by
    rw [hop] at hE
    refine ⟨hE x (by simp [Op.operands]), fun y hy => hE y (by subst hy; simp [Op.operands]), fun y hy => hE y (by subst hy; simp [Op.operands])⟩
  unfold sliceK at h
  split at h
  · rename_i b ofs n cp el hx hu
    split at h
    · cases h
    rename_i ie hie
    split at h
    case h_2 => cases h
    rename_i l hh hl hh2
    obtain ⟨hb, hK⟩ := ifK_some h
    simp only [Bool.and_eq_true, decide_eq_true_eq] at hb
    obtain ⟨h0, h1, h2⟩ := hb
    refine ⟨_, hK, fun Γ ρ hp w a hI hE hH hn hfree => lstep_of_ok ?_⟩
    obtain ⟨hvx, hvl, hvh⟩ := ops a ρ hE
    rw [hx] at hvx
    have bnd : ∀ (ad : Option Addr) (c : Nat), n ≤ c → a.eval x = .slice ad n c → (execOp a.eval o).run P w = .ok (.value (.slice (if c = l.toNat then ad else ad.map (·.add (l.toNat * ie.size))) (hh.toNat - l.toNat) (c - l.toNat))) w := fun ad c hc hax => by
      have hr := run_bounds (P := P) (w := w) true n c l hh hc h0 h1 h2 (lo.map a.eval) (hi.map a.eval) (optInt_ok hl hvl) (by
        rcases optInt_ok hh2 hvh with ⟨g1, g2⟩ | g
        · exact .inl ⟨g1, g2⟩
        · exact .inr g)
      simp only [execOp, hop, hax, Option.map_none]
      refine run_v ?_
      simp only [Instr.sliceAt, Instr.slice, Sem.run_bind, run_underlying' hu, Result.andThen, hr, run_size hie, Sem.run_pure]
    have mul : (if ie.size = 1 then ofs + l.toNat else ofs + l.toNat * ie.size) = ofs + l.toNat * ie.size := by
      split
      · rename_i hs; rw [hs, Nat.mul_one]
      · rfl
    have gen : ∀ (ad : Option Addr) (c : Nat), n ≤ c → a.eval x = .slice ad n c → (n = 0 ∧ c = 0 → True) → ∀ v : AV, VR ρ v (.slice (if c = l.toNat then ad else ad.map (·.add (l.toNat * ie.size))) (hh.toNat - l.toNat) (c - l.toNat)) → OpOK P Γ ρ hp w (execOp a.eval o) { val := v } := fun ad c hc hax _ v hv => .pure hI _ (bnd ad c hc hax) hv rfl
    have nl : lo = none → l = 0 := fun e => by subst e; simp only [optInt] at hl; injection hl with hl; exact hl.symm
    cases hlo : lo with
    | none =>
      have hl0 := nl hlo
      subst hl0
      simp only [Int.toNat_zero, Nat.zero_mul, Nat.sub_zero] at *
      have same : ∀ (ad : Option Addr) (c : Nat), (if c = 0 then ad else ad.map (·.add 0)) = ad := fun ad c => by
        split
        · rfl
        · cases ad <;> simp [Addr.add]
      cases cp with
      | unk =>
        simp only [VR] at hvx
        rcases hvx with ⟨cb, co, cc, c', k1, k2, k3, k4⟩ | ⟨k1, ad, k4⟩
        · refine gen _ _ k2 k4 (fun _ => trivial) _ ?_
          rw [same]; simp only [VR]
          exact .inl ⟨cb, co, cc, c', k1, by omega, k3, rfl⟩
        · subst k1
          have : hh.toNat = 0 := by omega
          refine gen _ _ (Nat.le_refl _) k4 (fun _ => trivial) _ ?_
          rw [same, this]; simp only [VR]
          exact .inr ⟨trivial, ad, rfl⟩
      | _ =>
        rcases hvx.slc_cases with ⟨cb, co, cc, c', k1, k2, k4⟩ | ⟨k1, ad, k4⟩
        · refine gen _ _ k2 k4 (fun _ => trivial) _ ?_
          rw [same]; simp only [VR]
          exact .inl ⟨cb, co, cc, c', k1, by omega, rfl⟩
        · subst k1
          have : hh.toNat = 0 := by omega
          refine gen _ _ (Nat.le_refl _) k4 (fun _ => trivial) _ ?_
          rw [same, this]; simp only [VR]
          exact .inr ⟨trivial, ad, rfl⟩
    | some y =>
      simp only
      have e1 : (hh - l).toNat = hh.toNat - l.toNat := by omega
      rcases hvx.slc_cases with ⟨cb, co, cc, c', k1, k2, k4⟩ | ⟨k1, ad, k4⟩
      · refine gen _ _ k2 k4 (fun _ => trivial) _ ?_
        rw [e1, mul]
        by_cases hc : c' = l.toNat
        · rw [if_pos hc]
          have z1 : hh.toNat - l.toNat = 0 := by omega
          have z2 : c' - l.toNat = 0 := by omega
          rw [z1, z2]; simp only [VR]
          exact .inr ⟨trivial, _, rfl⟩
        · rw [if_neg hc]; simp only [VR]
          exact .inl ⟨cb, co, cc, c' - l.toNat, k1, by omega, by simp only [Option.map_some, add_lit]; rw [Nat.add_assoc]⟩
      · subst k1
        have z0 : l.toNat = 0 ∧ hh.toNat = 0 := by omega
        refine gen _ _ (Nat.le_refl _) k4 (fun _ => trivial) _ ?_
        rw [e1, z0.1, z0.2]; simp only [VR]
        exact .inr ⟨trivial, ad, by simp⟩
  · rename_i el hx hu
    split at h
    · cases h
    rename_i ie hie
    split at h
    case h_2 => cases h
    rename_i l hh hl hh2
    obtain ⟨hb, hK⟩ := ifK_some h
    simp only [Bool.and_eq_true, decide_eq_true_eq] at hb
    obtain ⟨h0, h1⟩ := hb
    refine ⟨_, hK, fun Γ ρ hp w a hI hE hH hn hfree => lstep_of_ok ?_⟩
    obtain ⟨hvx, hvl, hvh⟩ := ops a ρ hE
    rw [hx] at hvx
    simp only [VR] at hvx
    have hr := run_bounds (P := P) (w := w) true 0 0 l hh (Nat.le_refl _) (by omega) (by omega) (by omega) (lo.map a.eval) (hi.map a.eval) (optInt_ok hl hvl) (by
        rcases optInt_ok hh2 hvh with ⟨g1, g2⟩ | g
        · exact .inl ⟨g1, by simpa using g2⟩
        · exact .inr g)
    refine .pure hI (.slice none 0 0) ?_ (by simp [VR]) rfl
    simp only [execOp, hop, hvx, Option.map_none]
    refine run_v ?_
    simp only [Instr.sliceAt, Instr.slice, Sem.run_bind, run_underlying' hu, Result.andThen, hr, run_size hie, Sem.run_pure, h0, h1]
    simp
  · rename_i s hx hu
    split at h
    case h_2 => cases h
    rename_i l hh hl hh2
    obtain ⟨hb, hK⟩ := ifK_some h
    simp only [Bool.and_eq_true, decide_eq_true_eq] at hb
    obtain ⟨h0, h1, h2⟩ := hb
    refine ⟨_, hK, fun Γ ρ hp w a hI hE hH hn hfree => lstep_of_ok ?_⟩
    obtain ⟨hvx, hvl, hvh⟩ := ops a ρ hE
    rw [hx] at hvx
    simp only [VR] at hvx
    have hr := run_bounds (P := P) (w := w) false s.size s.size l hh (Nat.le_refl _) h0 h1 h2 (lo.map a.eval) (hi.map a.eval) (optInt_ok hl hvl) (by
        rcases optInt_ok hh2 hvh with ⟨g1, g2⟩ | g
        · exact .inl ⟨g1, g2⟩
        · exact .inr g)
    refine .pure hI (.string (s.extract l.toNat hh.toNat)) ?_ (by simp [VR]) rfl
    simp only [execOp, hop, hvx, Option.map_none]
    refine run_v ?_
    simp only [Instr.sliceAt, Instr.slice, Sem.run_bind, run_underlying' hu, Result.andThen, hr, Sem.run_pure, Option.isSome_none, Bool.false_eq_true, if_false]
  · cases h
def slice3K {β : Type} (P : Program) (t : TypeId) (E : Operand → AV) (x : Operand) (lo : Option Operand) (hi mx : Operand) (K : Eff → Option β) : Option β :=
  match E x, P.underlying t with
  | .slc b o n cp, some (.slice el) => (match P.info? el with
    | none => none
    | some ie => (match optInt E 0 lo, intOfA (E hi), intOfA (E mx) with
      | some l, some h, some m => ifK (decide (0 ≤ l) && (decide (l ≤ h) && (decide (h ≤ m) && decide (m ≤ (n : Int))))) (K { val := .slc b (if ie.size = 1 then o + l.toNat else o + l.toNat * ie.size) (h - l).toNat .part })
      | _, _, _ => none))
  | _, _ => none
theorem run_bounds3 {P : Program} {w : World} (n c : Nat) (l h m : Int) (kh km : IntKind) (h0 : 0 ≤ l) (h1 : l ≤ h) (h2 : h ≤ m) (h3 : m ≤ (c : Int)) (lo : Option Value) (hlo : (lo = none ∧ l = 0) ∨ ∃ k, lo = some (.int k l)) :
    (Instr.sliceBounds true n c lo (some (.int kh h)) (some (.int km m))).run P w = .ok (l.toNat, h.toNat, m.toNat) w := by
  have b1 : ∀ (y : Nat) (code : BoundsCode) (k : IntKind) (i : Int), 0 ≤ i → i ≤ (y : Int) → (Instr.sliceBound (.int k i) y code).run P w = .ok i.toNat w := fun y code k i g1 g2 => by
    unfold Instr.sliceBound
    simp only [Sem.run_bind, asIntOf]
    show (if 0 ≤ i ∧ i ≤ (y : Int) then pure i.toNat else boundsPanic k i y code : Sem Nat).run P w = _
    rw [if_pos ⟨g1, g2⟩]; rfl
  rcases hlo with ⟨rfl, rfl⟩ | ⟨k, rfl⟩
  · simp only [Instr.sliceBounds, Sem.run_bind, Sem.run_pure, Result.andThen, b1 c _ km m (by omega) h3, b1 m.toNat _ kh h (by omega) (by omega)]
    rfl
  · simp only [Instr.sliceBounds, Sem.run_bind, Sem.run_pure, Result.andThen, b1 c _ km m (by omega) h3, b1 m.toNat _ kh h (by omega) (by omega), b1 h.toNat _ k l h0 (by omega)]
theorem slice3K_ok {β : Type} {P : Program} {o : Oper} {t : TypeId} {x hi mx : Operand} {lo : Option Operand} (hop : o.op = .slice t x lo (some hi) (some mx)) {E : Operand → AV} {H : Nat → Ent} {new : Nat} {K : Eff → Option β} {r : β} (h : slice3K P t E x lo hi mx K = some r) : ∃ e, K e = some r ∧ EffOK P o E H new e := by
  have ops : ∀ (a : Act) (ρ : Ren), (∀ z ∈ o.op.operands, VR ρ (E z) (a.eval z)) → VR ρ (E x) (a.eval x) ∧ (∀ y, lo = some y → VR ρ (E y) (a.eval y)) ∧ VR ρ (E hi) (a.eval hi) ∧ VR ρ (E mx) (a.eval mx) := fun a ρ hE => by
    rw [hop] at hE
    refine ⟨hE x (by simp [Op.operands]), fun y hy => hE y (by subst hy; simp [Op.operands]), hE hi (by simp [Op.operands]), hE mx (by simp [Op.operands])⟩
  unfold slice3K at h
  split at h
  case h_2 => cases h
  rename_i b ofs n cp el hx hu
  split at h
  · cases h
  rename_i ie hie
  split at h
  case h_2 => cases h
  rename_i l hh m hl hh2 hm
  obtain ⟨hb, hK⟩ := ifK_some h
  simp only [Bool.and_eq_true, decide_eq_true_eq] at hb
  obtain ⟨h0, h1, h2, h3⟩ := hb
  refine ⟨_, hK, fun Γ ρ hp w a hI hE hH hn hfree => lstep_of_ok ?_⟩
  obtain ⟨hvx, hvl, hvh, hvm⟩ := ops a ρ hE
  rw [hx] at hvx
  obtain ⟨kh, ekh⟩ := intOfA_some hh2 hvh
  obtain ⟨km, ekm⟩ := intOfA_some hm hvm
  have bnd : ∀ (ad : Option Addr) (c : Nat), n ≤ c → a.eval x = .slice ad n c → (execOp a.eval o).run P w = .ok (.value (.slice (if m.toNat = l.toNat then ad else ad.map (·.add (l.toNat * ie.size))) (hh.toNat - l.toNat) (m.toNat - l.toNat))) w := fun ad c hc hax => by
    have hr := run_bounds3 (P := P) (w := w) n c l hh m kh km h0 h1 h2 (by omega) (lo.map a.eval) (optInt_ok hl hvl)
    simp only [execOp, hop, hax, Option.map_some, ekh, ekm]
    refine run_v ?_
    simp only [Instr.sliceAt, Instr.slice, Sem.run_bind, run_underlying' hu, Result.andThen, hr, run_size hie, Sem.run_pure]
  have mul : (if ie.size = 1 then ofs + l.toNat else ofs + l.toNat * ie.size) = ofs + l.toNat * ie.size := by
    split
    · rename_i hs; rw [hs, Nat.mul_one]
    · rfl
  have e1 : (hh - l).toNat = hh.toNat - l.toNat := by omega
  have e2 : (m - l).toNat = m.toNat - l.toNat := by omega
  rcases hvx.slc_cases with ⟨cb, co, cc, c', k1, k2, k4⟩ | ⟨k1, ad, k4⟩
  · refine .pure hI _ (bnd _ _ k2 k4) ?_ rfl
    rw [e1, mul]
    by_cases hc : m.toNat = l.toNat
    · rw [if_pos hc]
      have z1 : hh.toNat - l.toNat = 0 := by omega
      have z2 : m.toNat - l.toNat = 0 := by omega
      rw [z1, z2]; simp only [VR]
      exact .inr ⟨trivial, _, rfl⟩
    · rw [if_neg hc]; simp only [VR]
      exact .inl ⟨cb, co, cc, m.toNat - l.toNat, k1, by omega, by simp only [Option.map_some, add_lit]; rw [Nat.add_assoc]⟩
  · subst k1
    have z0 : l.toNat = 0 ∧ hh.toNat = 0 ∧ m.toNat = 0 := by omega
    refine .pure hI _ (bnd _ _ (Nat.le_refl _) k4) ?_ rfl
    rw [e1, z0.1, z0.2.1, z0.2.2]; simp only [VR]
    exact .inr ⟨trivial, ad, by simp⟩
def baseK {β : Type} (P : Program) (o : Oper) (E : Operand → AV) (H : Nat → Ent) (new : Nat) (K : Eff → Option β) : Option β :=
  match coreBase P o E H new none none with
  | some e => match e.ob with
    | [] => K e
    | _ => none
  | none => none
theorem baseK_ok {β : Type} {P : Program} {o : Oper} {E : Operand → AV} {H : Nat → Ent} {new : Nat} {K : Eff → Option β} {r : β} (h : baseK P o E H new K = some r) : ∃ e, K e = some r ∧ EffOK P o E H new e := by
  unfold baseK at h
  split at h
  case h_2 => cases h
  rename_i e he
  split at h
  case h_2 => cases h
  rename_i hob
  exact ⟨e, h, fun Γ ρ hp wd act hI hE hH hn hfree => lstep_of_ok (coreBase_ok hI hE he (by rw [hob]; simp) hH hn hfree)⟩
def callK {β : Type} {P : Program} (env : Env P) (as : Array Operand) (fo : Operand) (E : Operand → AV) (H : Nat → Ent) (new : Nat) (K : Eff → Option β) : Option β :=
  match E fo with
  | .fn (.func f) first cap => match env.find f with
    | some s => s.S H new (first ++ as.toList.map E ++ cap) K
    | none => none
  | .fn (.yield _) [] [] => match env.y with
    | some s => s.S H new (as.toList.map E) K
    | none => none
  | _ => none
theorem callK_ok {β : Type} {P : Program} {env : Env P} {o : Oper} {fo : Operand} {as : Array Operand} {ts : Array TypeId} (hop : o.op = .call { callee := .value fo, args := as, argTypes := ts }) {E : Operand → AV} {H : Nat → Ent} {new : Nat} {K : Eff → Option β} {r : β}
    (h : callK env as fo E H new K = some r) : ∃ e, K e = some r ∧ EffOKY P env.Y o E H new e := by
  unfold callK at h
  split at h
  case h_3 => cases h
  case h_2 =>
    rename_i k hfo
    split at h
    case h_2 => cases h
    rename_i s hs
    obtain ⟨e, hK, hok⟩ := s.ok _ _ _ _ _ h
    refine ⟨e, hK, fun Γ hY ρ hp w a hI hE hH hn hfree => ?_⟩
    have hfoC := hE fo (by simp [hop, Op.operands, Call.operands])
    rw [hfo] at hfoC
    simp only [VR] at hfoC
    obtain ⟨fs, cs, hCf, hfs, hcs⟩ := hfoC
    have hfs0 : fs = #[] := by
      have := hfs.length
      exact Array.eq_empty_of_size_eq_zero (by simpa using this.symm)
    have hcs0 : cs = #[] := by
      have := hcs.length
      exact Array.eq_empty_of_size_eq_zero (by simpa using this.symm)
    subst hfs0; subst hcs0
    have hall : VRs ρ (as.toList.map E) (as.map a.eval).toList := by
      simp only [Array.toList_map]
      exact VRs.map _ fun x hx => hE x (by simp [hop, Op.operands, Call.operands]; exact .inr (by simpa using hx))
    obtain ⟨fn, tmps, asg, body, hrun, hround⟩ := hok Γ (by simpa [Env.Y, YSumm.at_, hs] using hY) ρ hp w _ hI hall hH hn hfree
    intro hnd r K Qc hK
    unfold Oper.wpIn
    refine ⟨fun _ _ => trivial, ?_⟩
    have hex : execOp a.eval o = Instr.yield ρ.base.drawn (as.map a.eval) := by
      simp only [execOp, hop, resolve, hCf, Deferred.ofValue, fnAt]
      show (invoke (.fn (.yield _) #[]) (#[] ++ as.map a.eval)) = _
      simp [invoke]
    rw [Oper.semAt_eq _ _ _ hnd, hex, hrun]
    refine ⟨(fun h => by cases h), ?_⟩
    refine RoundIn.mono (F := frF r) hround fun e w'' hR => ?_
    obtain ⟨ρ', cv, rfl, h1, h2, h3⟩ := hR
    exact hK ρ' w'' cv h1 h2 h3
  rename_i f first cap hfo
  split at h
  case h_2 => cases h
  rename_i s hs
  obtain ⟨e, hK, hok⟩ := s.ok _ _ _ _ _ h
  have hsf := env.find_f f s hs
  refine ⟨e, hK, EffOK.y fun Γ ρ hp w a hI hE hH hn hfree => ?_⟩
  have hfoC := hE fo (by simp [hop, Op.operands, Call.operands])
  rw [hfo] at hfoC
  simp only [VR] at hfoC
  obtain ⟨fs, cs, hCf, hfs, hcs⟩ := hfoC
  have hall : VRs ρ (first ++ as.toList.map E ++ cap) (fs ++ as.map a.eval ++ cs).toList := by
    simp only [Array.toList_append, Array.toList_map]
    exact (hfs.append (VRs.map _ fun x hx => hE x (by simp [hop, Op.operands, Call.operands]; exact .inr (by simpa using hx)))).append hcs
  have hinv := hok Γ ρ hp w _ hI hall hH hn hfree
  rw [hsf] at hinv
  intro hnd r K Qc hK
  unfold Oper.wpIn
  refine ⟨fun _ _ => trivial, ?_⟩
  rw [Oper.semAt_eq _ _ _ hnd, run_callOp hop hCf]
  unfold Invokes at hinv
  generalize hrun : (callFunc f (fs ++ as.map a.eval ++ cs)).run P w = r at hinv
  cases r with
  | halt x w' => exact hinv.elim
  | ok nx w' =>
    cases nx with
    | enter g gs =>
      simp only at hinv
      refine ⟨(fun h => by cases h), callsIn_frF ?_⟩
      refine hinv.mono fun e w'' hR => ?_
      obtain ⟨ρ', cv, rfl, h1, h2, h3⟩ := hR
      exact hK ρ' w'' cv h1 h2 h3
    | value v =>
      simp only at hinv
      obtain ⟨ρ', cv, hv0, h1, h2, h3⟩ := hinv
      injection hv0 with hv0; subst hv0
      exact hK ρ' w' v h1 h2 h3
    | _ => exact hinv.elim
def ifaceK {β : Type} (P : Program) (t : TypeId) (v : AV) (K : Eff → Option β) : Option β :=
  match P.underlying t with
  | some (.interface _) => none
  | some _ => K { val := .ifc t v }
  | none => none
theorem ifaceK_ok {β : Type} {P : Program} {o : Oper} {t : TypeId} {x : Operand} (hop : o.op = .makeInterface t x) {E : Operand → AV} {H : Nat → Ent} {new : Nat} {K : Eff → Option β} {r : β} (h : ifaceK P t (E x) K = some r) : ∃ e, K e = some r ∧ EffOK P o E H new e := by
  unfold ifaceK at h
  split at h
  · cases h
  · rename_i d hni hd
    refine ⟨_, h, fun Γ ρ hp wd act hI hE hH hn hfree => lstep_of_ok ?_⟩
    have hv := hE x (by simp [hop, Op.operands])
    refine .pure hI (.iface t (act.eval x)) ?_ ?_ rfl
    · simp only [execOp, hop]
      refine run_v ?_
      simp only [Instr.makeInterface, Sem.run_bind, run_underlying' hd, Result.andThen]
      rfl
    · simp only [VR]; exact ⟨_, rfl, hv⟩
  · cases h
def makeK {β : Type} (P : Program) (t : TypeId) (a c : AV) (new : Nat) (K : Eff → Option β) : Option β :=
  match P.underlying t with
  | some (.slice el) => (match P.info? el with
    | none => none
    | some ie => (match ie.zero with
      | none => none
      | some z => (match shOf P 6 el with
        | none => none
        | some s => (match a, c with
          | .val (.int _ l), .val (.int _ n) => if l = 0 ∧ 0 < ie.size then ifK (decide (0 ≤ n) && (decide (n.toNat * ie.bytes ≤ 140737488355328) && decide (n ≤ 4611686018427387904))) (K { wb := [(new, .live { cells := .arr s [], rw := true, grow := some ie.size })], nw := 1, val := .slc new 0 0 .unk }) else none
          | _, _ => none))))
  | _ => none
theorem makeK_ok {β : Type} {P : Program} {o : Oper} {t : TypeId} {x y : Operand} (hop : o.op = .makeSlice t x y) {E : Operand → AV} {H : Nat → Ent} {new : Nat} {K : Eff → Option β} {r : β} (h : makeK P t (E x) (E y) new K = some r) : ∃ e, K e = some r ∧ EffOK P o E H new e := by
  unfold makeK at h
  split at h
  case h_2 => cases h
  rename_i el hu
  split at h
  · cases h
  rename_i ie hi
  split at h
  · cases h
  rename_i z hz
  split at h
  · cases h
  rename_i s hs
  split at h
  case h_2 => cases h
  rename_i k1 l k2 n hx hy
  split at h
  case isFalse => cases h
  rename_i hc
  obtain ⟨rfl, hsz⟩ := hc
  obtain ⟨hcond, h⟩ := ifK_some h
  simp only [Bool.and_eq_true, decide_eq_true_eq] at hcond
  obtain ⟨c1, c2, c3⟩ := hcond
  refine ⟨_, h, fun Γ ρ hp w act hI hE hH hn hfree => lstep_of_ok ?_⟩
  have vx := hE x (by simp [hop, Op.operands])
  have vy := hE y (by simp [hop, Op.operands])
  rw [hx] at vx
  rw [hy] at vy
  simp only [VR] at vx vy
  obtain ⟨N, rfl⟩ := Int.eq_ofNat_of_zero_le c1
  have hN : (N : Int).toNat = N := by simp
  rw [hN] at c2
  have hprod : ie.bytes * N = N * ie.bytes := Nat.mul_comm _ _
  have w1 : IntKind.i64.wrap (N : Int) = N := by simp [IntKind.wrap, IntKind.bits, IntKind.signed]; omega
  have w0 : IntKind.i64.wrap 0 = 0 := by decide
  have hinfo : (typeInfo el).run P w = .ok ie w := by simp [typeInfo, hi, Result.andThen]
  let cs : Array Value := (Array.range (N * ie.size)).map ((if N * ie.size = 0 then #[] else z.cells)[· % (if N * ie.size = 0 then #[] else z.cells).size]!)
  have hcs : cs.size = N * ie.size := by simp [cs]
  have hr : (Instr.makeSlice t (act.eval x) (act.eval y)).run P w = .ok (.slice (some ⟨w.heap.size, 0, none⟩) 0 N) { w with heap := w.heap.push (.cells cs el (0, 0)) } := by
    rw [vx, vy]
    have e1 : ¬ (281474976710656 : Int) < (ie.bytes : Int) * (N : Int) := by
      have e2 : ((ie.bytes * N : Nat) : Int) = (ie.bytes : Int) * (N : Int) := by push_cast; rfl
      rw [← e2, hprod]
      omega
    have e3 : ¬ (N : Int) < 0 := by omega
    have hA : ∀ (k : IntKind) (v : Int) (w : World), (asInt (.int k v)).run P w = .ok v w := fun _ _ _ => rfl
    simp only [Instr.makeSlice, Sem.run_bind, run_underlying' hu, Result.andThen, hA, Sem.run_pure, hinfo, w1, w0]
    by_cases hz0 : N * ie.size = 0
    · simp [e1, e3, hz0, run_size hi, run_newRow, Result.andThen, cs]
    · simp [e1, e3, hz0, run_size hi, run_zero hi hz, run_newRow, Result.andThen, cs]
  obtain ⟨g1, g2⟩ := hI.alloc (w' := { w with heap := w.heap.push (.cells cs el (0, 0)) }) hn (hfree new (Nat.le_refl _) (by simp)) cs el (.arr s []) (some ie.size) N rfl rfl rfl rfl (fun i v hv => by simp [Sh.flatl] at hv) (by simp [Cells.len, Sh.flatl]) (fun sz hsz2 => by injection hsz2 with hsz2; rw [hcs, hsz2])
  refine ⟨_, .value (.slice (some ⟨w.heap.size, 0, none⟩) 0 N), .slice (some ⟨w.heap.size, 0, none⟩) 0 N, { w with heap := w.heap.push (.cells cs el (0, 0)) }, ?_, .inl rfl, g1, ?_, g2⟩
  · simp only [execOp, hop]
    exact run_v hr
  · simp only [VR]
    exact .inl ⟨w.heap.size, 0, N, N, by simp [Ren.put], Nat.zero_le _, ⟨rfl, rfl⟩, rfl⟩
theorem flatl_split {s : Sh} {l : List s.T} {k : Nat} {y : s.T} (hk : l[k]? = some y) : s.flatl l = s.flatl (l.take k) ++ (s.enc y ++ s.flatl (l.drop (k + 1))) := by
  have h1 : l = l.take k ++ y :: l.drop (k + 1) := by
    obtain ⟨hlt, he⟩ := List.getElem?_eq_some_iff.1 hk
    rw [← he, List.getElem_cons_drop, List.take_append_drop]
  conv => lhs; rw [h1]
  simp [Sh.flatl]
theorem flatl_set {s : Sh} {l : List s.T} {k : Nat} {y y' : s.T} (hk : l[k]? = some y) : s.flatl (l.set k y') = s.flatl (l.take k) ++ (s.enc y' ++ s.flatl (l.drop (k + 1))) := by
  obtain ⟨hlt, he⟩ := List.getElem?_eq_some_iff.1 hk
  rw [List.set_eq_take_append_cons_drop, if_pos hlt]
  simp [Sh.flatl]
theorem plains_map : ∀ (us : List Value), AV.plains? (us.map .val) = some us
  | [] => by simp [AV.plains?]
  | v :: us => by simp [AV.plains?, AV.plain?, plains_map us]
def eltStoreK {β : Type} (P : Program) (t : TypeId) (b o i w f : Nat) (H : Nat → Ent) (a : AV) (K : Eff → Option β) : Option β :=
  match H b with
  | .live blk => match blk.cells with
    | .arr s l => if (s.flat = true ∧ s.w = w) ∧ blk.rw = true then (match eltAt w o i with
      | none => none
      | some k => (l[k]?).bind fun y => match a.asCells, P.info? t with
        | some vs, some i' => if (vs.length = i'.size ∧ vs.all AV.one = true) ∧ (0 < vs.length ∧ f + vs.length ≤ w) then (match s.dec (setRange ((s.enc y).map .val) f vs) with
            | some (y', []) => K { rb := [b], wb := [(b, .live { blk with cells := .arr s (l.set k y') })], val := .val undef }
            | _ => none) else none
        | _, _ => none) else none
    | _ => none
  | _ => none
theorem eltStoreK_ok {β : Type} {P : Program} {o : Oper} {t : TypeId} {x z : Operand} (hop : o.op = .store t x z) {E : Operand → AV} {b ofs i w f : Nat} (hx : E x = .elt b ofs i w f) {H : Nat → Ent} {new : Nat} {K : Eff → Option β} {r : β} (h : eltStoreK P t b ofs i w f H (E z) K = some r) : ∃ e, K e = some r ∧ EffOK P o E H new e := by
  unfold eltStoreK at h
  split at h
  case h_2 => cases h
  rename_i blk hblk
  split at h
  case h_2 => cases h
  rename_i s l hcells
  split at h
  case isFalse => cases h
  rename_i hs
  obtain ⟨⟨hf, hw⟩, hrw⟩ := hs
  split at h
  · cases h
  rename_i k hk
  rw [Option.bind_eq_some_iff] at h
  obtain ⟨y, hy, h⟩ := h
  split at h
  case h_2 => cases h
  rename_i vs i' hvs hi'
  split at h
  case isFalse => cases h
  rename_i hc
  obtain ⟨⟨c1, c2⟩, c3, c4⟩ := hc
  split at h
  case h_2 => cases h
  rename_i y' hdec
  refine ⟨_, h, fun Γ ρ hp wd act hI hE hH hn hfree => lstep_of_ok ?_⟩
  obtain ⟨_, hdec2⟩ := dec_ok _ _ _ _ hdec
  rw [List.append_nil] at hdec2
  obtain ⟨hk1, hk2⟩ := eltAt_some hk
  subst hw
  have hly : (s.enc y).length = s.w := enc_length s y hf
  -- the new part's cells
  let us := ((s.enc y').drop f).take vs.length
  have hvu : vs = us.map .val := by
    have h1 := congrArg (fun q => (q.drop f).take vs.length) hdec2
    simp only [setRange] at h1
    have hlf : (((s.enc y).map AV.val).take f).length = f := by simp; omega
    rw [List.append_assoc, List.drop_left' hlf, List.take_left' rfl] at h1
    rw [h1, ← List.map_drop, ← List.map_take]
  have hey : s.enc y' = (s.enc y).take f ++ us ++ (s.enc y).drop (f + us.length) := by
    have hl : us.length = vs.length := by rw [hvu]; simp
    have h2 : (s.enc y').map AV.val = ((s.enc y).take f ++ us ++ (s.enc y).drop (f + us.length)).map AV.val := by
      rw [← hdec2, setRange, List.map_append, List.map_append, ← hvu, List.map_take, List.map_drop, hl]
    have inj : ∀ (a b : List Value), a.map AV.val = b.map AV.val → a = b := by
      intro a
      induction a with
      | nil => intro b hb; cases b with
        | nil => rfl
        | cons => simp at hb
      | cons x a ih => intro b hb; cases b with
        | nil => simp at hb
        | cons z b =>
          simp only [List.map_cons, List.cons.injEq] at hb
          obtain ⟨q1, q2⟩ := hb
          injection q1 with q1
          rw [q1, ih b q2]
    exact inj _ _ h2
  have hb : hp.get b = .live blk := by rw [hH b (by simp)]; exact hblk
  have hI0 := hI.recell hb (.sym (s.flatl l)) (by rw [hcells]; exact Nat.le_refl _) (fun c hc => by have := hI.sim.cells b blk c hb hc; rw [hcells] at this; exact this)
  have hv := hE x (by simp [hop, Op.operands])
  rw [hx] at hv
  have hv' : VR ρ (.ptr b (k * s.w + f)) (act.eval x) := by
    simp only [VR] at hv ⊢
    obtain ⟨cb, co, cc, h1, h2⟩ := hv
    exact ⟨cb, co, cc, h1, by rw [h2]; congr 3; omega⟩
  have hz := hE z (by simp [hop, Op.operands])
  have hklt : k < l.length := (List.getElem?_eq_some_iff.1 hy).1
  have hlu : us.length = vs.length := by rw [hvu]; simp
  have hfl : (s.flatl l).length = l.length * s.w := flatl_length s hf l
  have hle : k * s.w + f + us.length ≤ (s.flatl l).length := by
    rw [hfl]
    have := Nat.mul_le_mul_right s.w (show k + 1 ≤ l.length from hklt)
    rw [Nat.add_mul] at this; omega
  have hg0 : (hp.upd b (.live { blk with cells := .sym (s.flatl l) })).get b = .live { blk with cells := .sym (s.flatl l) } := by rw [Heap.get_upd, if_pos rfl]
  have hplain : AV.plains? vs = some us := by rw [hvu]; exact plains_map us
  obtain ⟨ρ', nx, cv, w', g1, g2, g3, g4, g5⟩ := coreStore_ok (P := P) (t := t) hI0 hv' hz (pf := some ⟨_, hle⟩) (e := { rb := [b], wb := [(b, .live { blk with cells := .sym ((s.flatl l).take (k * s.w + f) ++ us ++ (s.flatl l).drop (k * s.w + f + us.length)) })], val := .val undef, ob := [.prop (k * s.w + f + us.length ≤ (s.flatl l).length) (k * s.w + f + us.length ≤ (s.flatl l).length)] })
    (by rw [hg0]; simp only [coreStore, hrw, hvs, hi', Option.bind_some, if_true, if_pos (show vs.length = i'.size ∧ vs.all AV.one = true ∧ 0 < vs.length from ⟨c1, c2, c3⟩), hplain, Option.map_some]) (fun p hp => by rw [List.mem_singleton.1 hp]; rfl)
  have hA : (s.flatl (l.take k)).length = k * s.w := by rw [flatl_length s hf, List.length_take]; congr 1; omega
  have hlist : (s.flatl l).take (k * s.w + f) ++ us ++ (s.flatl l).drop (k * s.w + f + us.length) = s.flatl (l.set k y') := by
    rw [flatl_set hy, flatl_split hy, hey]
    rw [← hA, List.take_length_add_append, Nat.add_assoc, List.drop_length_add_append]
    rw [List.take_append_of_le_length (by omega), List.drop_append_of_le_length (by omega)]
    simp
  rw [hlist] at g5
  have hg1 : ((hp.upd b (.live { blk with cells := .sym (s.flatl l) })).upds [(b, .live { blk with cells := .sym (s.flatl (l.set k y')) })]).get b = .live { blk with cells := .sym (s.flatl (l.set k y')) } := by
    simp only [Heap.upds]; rw [Heap.get_upd, if_pos rfl]
  have hI2 := g5.recell hg1 (.arr s (l.set k y')) (by show (s.flatl _).length ≤ (s.flatl _).length; exact Nat.le_refl _) (fun c hc => g5.sim.cells b _ c hg1 hc)
  refine ⟨ρ', nx, cv, w', by simpa only [execOp, hop] using g1, g2, g3, g4, hI2.congr fun q => ?_⟩
  simp only [Heap.upds, Heap.get_upd]
  by_cases hq : q = b
  · simp [hq]
  · simp [hq]
theorem flatl_replicate {s : Sh} (hf : s.flat = true) (hw : 0 < s.w) (z : s.T) : ∀ (N i : Nat) (v : Value), (s.flatl (List.replicate N z))[i]? = some v → i < N * s.w ∧ (s.enc z)[i % s.w]? = some v
  | 0, i, v, h => by simp [Sh.flatl] at h
  | N + 1, i, v, h => by
    have e : s.flatl (List.replicate (N + 1) z) = s.enc z ++ s.flatl (List.replicate N z) := by simp [Sh.flatl, List.replicate_succ]
    have hl := enc_length s z hf
    rw [e, List.getElem?_append] at h
    rw [Nat.add_mul]
    split at h
    · rename_i hlt
      rw [hl] at hlt
      rw [Nat.mod_eq_of_lt hlt]
      exact ⟨by omega, h⟩
    · rename_i hge
      rw [hl] at hge h
      obtain ⟨h1, h2⟩ := flatl_replicate hf hw z N _ v h
      refine ⟨by omega, ?_⟩
      rw [Nat.mod_eq_sub_mod (by omega)]; exact h2
def makeNK {β : Type} (P : Program) (t : TypeId) (a : AV) (new : Nat) (K : Eff → Option β) : Option β :=
  match P.underlying t with
  | some (.slice el) => (match P.info? el with
    | none => none
    | some ie => (match ie.zero with
      | none => none
      | some z => (match shOf P 6 el with
        | none => none
        | some s => (match a with
          | .val (.int _ n) => (match s.dec (z.cells.toList.map .val) with
            | some (y, []) => if ie.size = s.w ∧ 0 < ie.size then ifK (decide (0 ≤ n) && (decide (n.toNat * ie.bytes ≤ 140737488355328) && decide (n ≤ 4611686018427387904))) (K { wb := [(new, .live { cells := .arr s (List.replicate n.toNat y), rw := true, grow := some ie.size })], nw := 1, val := .slc new 0 n.toNat .unk }) else none
            | _ => none)
          | _ => none))))
  | _ => none
theorem makeNK_ok {β : Type} {P : Program} {o : Oper} {t : TypeId} {x : Operand} (hop : o.op = .makeSlice t x x) {E : Operand → AV} {H : Nat → Ent} {new : Nat} {K : Eff → Option β} {r : β} (h : makeNK P t (E x) new K = some r) : ∃ e, K e = some r ∧ EffOK P o E H new e := by
  unfold makeNK at h
  split at h
  case h_2 => cases h
  rename_i el hu
  split at h
  · cases h
  rename_i ie hi
  split at h
  · cases h
  rename_i z hz
  split at h
  · cases h
  rename_i s hs
  split at h
  case h_2 => cases h
  rename_i k2 n hx
  split at h
  case h_2 => cases h
  rename_i y hdec
  split at h
  case isFalse => cases h
  rename_i hc
  obtain ⟨hsw, hsz⟩ := hc
  obtain ⟨hf, hdec⟩ := dec_ok _ _ _ _ hdec
  have hzc : z.cells.toList = s.enc y := by
    rw [List.append_nil] at hdec
    have inj : ∀ (a b : List Value), a.map AV.val = b.map AV.val → a = b := by
      intro a
      induction a with
      | nil => intro b hb; cases b with
        | nil => rfl
        | cons => simp at hb
      | cons x a ih => intro b hb; cases b with
        | nil => simp at hb
        | cons z b =>
          simp only [List.map_cons, List.cons.injEq] at hb
          obtain ⟨q1, q2⟩ := hb
          injection q1 with q1
          rw [q1, ih b q2]
    exact inj _ _ hdec
  obtain ⟨hcond, h⟩ := ifK_some h
  simp only [Bool.and_eq_true, decide_eq_true_eq] at hcond
  obtain ⟨c1, c2, c3⟩ := hcond
  refine ⟨_, h, fun Γ ρ hp w act hI hE hH hn hfree => lstep_of_ok ?_⟩
  have vx := hE x (by simp [hop, Op.operands])
  rw [hx] at vx
  simp only [VR] at vx
  obtain ⟨N, rfl⟩ := Int.eq_ofNat_of_zero_le c1
  have hN : (N : Int).toNat = N := by simp
  rw [hN] at c2
  have hprod : ie.bytes * N = N * ie.bytes := Nat.mul_comm _ _
  have w1 : IntKind.i64.wrap (N : Int) = N := by simp [IntKind.wrap, IntKind.bits, IntKind.signed]; omega
  have hinfo : (typeInfo el).run P w = .ok ie w := by simp [typeInfo, hi, Result.andThen]
  let cs : Array Value := (Array.range (N * ie.size)).map ((if N * ie.size = 0 then #[] else z.cells)[· % (if N * ie.size = 0 then #[] else z.cells).size]!)
  have hcs : cs.size = N * ie.size := by simp [cs]
  have hr : (Instr.makeSlice t (act.eval x) (act.eval x)).run P w = .ok (.slice (some ⟨w.heap.size, 0, none⟩) N N) { w with heap := w.heap.push (.cells cs el (0, 0)) } := by
    rw [vx]
    have e1 : ¬ (281474976710656 : Int) < (ie.bytes : Int) * (N : Int) := by
      have e2 : ((ie.bytes * N : Nat) : Int) = (ie.bytes : Int) * (N : Int) := by push_cast; rfl
      rw [← e2, hprod]
      omega
    have e3 : ¬ (N : Int) < 0 := by omega
    have hA : ∀ (k : IntKind) (v : Int) (w : World), (asInt (.int k v)).run P w = .ok v w := fun _ _ _ => rfl
    simp only [Instr.makeSlice, Sem.run_bind, run_underlying' hu, Result.andThen, hA, Sem.run_pure, hinfo, w1]
    by_cases hz0 : N * ie.size = 0
    · simp [e1, e3, hz0, run_size hi, run_newRow, Result.andThen, cs]
    · simp [e1, e3, hz0, run_size hi, run_zero hi hz, run_newRow, Result.andThen, cs]
  have hcell : ∀ (i : Nat) (v : Value), (s.flatl (List.replicate N y))[i]? = some v → ({ w with heap := w.heap.push (.cells cs el (0, 0)) } : World).cell? ⟨w.heap.size, 0 + i, none⟩ = some v := by
    intro i v hv
    obtain ⟨q1, q2⟩ := flatl_replicate hf (by omega) y N i v hv
    have q3 : N * ie.size ≠ 0 := by rw [hsw]; omega
    have q4 : z.cells.size = s.w := by rw [← Array.length_toList, hzc, enc_length s y hf]
    have q5 : cs[i]? = some v := by
      simp only [cs, if_neg q3, Array.getElem?_map]
      rw [Array.getElem?_range, if_pos (by rw [hsw]; exact q1)]
      simp only [Option.map_some, q4]
      rw [← hzc, Array.getElem?_toList] at q2
      rw [getElem!_def, q2]
    simp only [World.cell?, Nat.zero_add, Array.getElem?_push_size, Option.isSome_none]
    simpa using q5
  obtain ⟨g1, g2⟩ := hI.alloc (w' := { w with heap := w.heap.push (.cells cs el (0, 0)) }) hn (hfree new (Nat.le_refl _) (by simp)) cs el (.arr s (List.replicate N y)) (some ie.size) N rfl rfl rfl rfl (fun i v hv => hcell i v hv) (by show (s.flatl _).length ≤ _; rw [flatl_length s hf, List.length_replicate, hcs, hsw]; exact Nat.le_refl _) (fun sz hsz2 => by injection hsz2 with hsz2; rw [hcs, hsz2])
  refine ⟨_, .value (.slice (some ⟨w.heap.size, 0, none⟩) N N), .slice (some ⟨w.heap.size, 0, none⟩) N N, { w with heap := w.heap.push (.cells cs el (0, 0)) }, ?_, .inl rfl, g1, ?_, g2⟩
  · simp only [execOp, hop]
    exact run_v hr
  · simp only [VR]
    exact .inl ⟨w.heap.size, 0, N, N, by simp [Ren.put], Nat.le_refl _, ⟨rfl, rfl⟩, rfl⟩
def emptyK {β : Type} (P : Program) (t : TypeId) (new : Nat) (K : Eff → Option β) : Option β :=
  match P.underlying t with
  | some (.slice el) => (match P.info? el with
    | none => none
    | some ie => (match shOf P 6 el with
      | none => none
      | some s => if 0 < ie.size then K { wb := [(new, .live { cells := .arr s [], rw := true, grow := some ie.size })], nw := 1, val := .slc new 0 0 .unk } else none))
  | _ => none
theorem emptyK_ok {β : Type} {P : Program} {o : Oper} {t : TypeId} (hop : o.op = .buildSlice t 0 #[]) {E : Operand → AV} {H : Nat → Ent} {new : Nat} {K : Eff → Option β} {r : β} (h : emptyK P t new K = some r) : ∃ e, K e = some r ∧ EffOK P o E H new e := by
  unfold emptyK at h
  split at h
  case h_2 => cases h
  rename_i el hu
  split at h
  · cases h
  rename_i ie hi
  split at h
  · cases h
  rename_i s hs
  split at h
  case isFalse => cases h
  rename_i hsz
  refine ⟨_, h, fun Γ ρ hp w act hI hE hH hn hfree => lstep_of_ok ?_⟩
  have hr : (Instr.buildSlice t 0 #[]).run P w = .ok (.slice (some ⟨w.heap.size, 0, none⟩) 0 0) { w with heap := w.heap.push (.cells #[] el (0, 0)) } := by
    simp [Instr.buildSlice, Sem.run_bind, run_underlying' hu, Result.andThen, run_size hi, run_newRow, Sem.run_pure, Instr.fill]
    rw [show Array.range 0 = #[] from rfl, Array.map_empty]
  obtain ⟨g1, g2⟩ := hI.alloc (w' := { w with heap := w.heap.push (.cells #[] el (0, 0)) }) hn (hfree new (Nat.le_refl _) (by simp)) #[] el (.arr s []) (some ie.size) 0 rfl rfl rfl rfl (fun i v hv => by simp [Sh.flatl] at hv) (by simp [Cells.len, Sh.flatl]) (fun sz hsz2 => by simp)
  refine ⟨_, .value (.slice (some ⟨w.heap.size, 0, none⟩) 0 0), .slice (some ⟨w.heap.size, 0, none⟩) 0 0, { w with heap := w.heap.push (.cells #[] el (0, 0)) }, ?_, .inl rfl, g1, ?_, g2⟩
  · simp only [execOp, hop]
    refine run_v ?_
    rw [Array.map_empty]
    exact hr
  · simp only [VR]
    exact .inl ⟨w.heap.size, 0, 0, 0, by simp [Ren.put], Nat.zero_le _, ⟨rfl, rfl⟩, rfl⟩
def partV (P : Program) (t : TypeId) (cs : Array Value) (off : Nat) : Option Value :=
  match P.underlying t with
  | some (.struct _) => (P.info? t).map fun i => .agg ⟨(cs.toList.drop off).take i.size⟩
  | some (.array _ _) => (P.info? t).map fun i => .agg ⟨(cs.toList.drop off).take i.size⟩
  | some (.int _) => cs.toList[off]?
  | some .bool => cs.toList[off]?
  | _ => none
def eqL {α : Type} (f : α → Option Bool) : List α → Option Bool
  | [] => some true
  | a :: l => (f a).bind fun r => (eqL f l).map fun q => r && q
def eqV (P : Program) : Nat → TypeId → Value → Value → Option Bool
  | 0, _, _, _ => none
  | d + 1, t, x, y => match P.underlying t, x, y with
    | some (.int _), .int k a, .int k' b => if k = k' then some (a == b) else none
    | some .bool, .bool a, .bool b => some (a == b)
    | some (.struct fs), .agg xs, .agg ys => if P.stoodInHeld t = true then none else eqL (fun f => if f.name ≠ "_" then (partV P f.type xs f.offset).bind fun a => (partV P f.type ys f.offset).bind fun b => eqV P d f.type a b else some true) fs.toList
    | some (.array n e), .agg xs, .agg ys => (P.info? e).bind fun i => eqL (fun j => (partV P e xs (j * i.size)).bind fun a => (partV P e ys (j * i.size)).bind fun b => eqV P d e a b) (List.range n)
    | _, _, _ => none
theorem partV_run {P : Program} {t : TypeId} {cs : Array Value} {off : Nat} {v : Value} (h : partV P t cs off = some v) (w : World) : (part t cs off).run P w = .ok v w := by
  unfold partV at h
  have ext : ∀ n, cs.extract off (off + n) = ⟨(cs.toList.drop off).take n⟩ := fun n => by
    apply Array.toList_inj.1
    simp
  split at h
  · rename_i fs hu
    simp only [Option.map_eq_some_iff] at h
    obtain ⟨i, hi, rfl⟩ := h
    simp [part, isAgg, run_underlying' hu, run_size hi, Result.andThen, ext]
  · rename_i n e hu
    simp only [Option.map_eq_some_iff] at h
    obtain ⟨i, hi, rfl⟩ := h
    simp [part, isAgg, run_underlying' hu, run_size hi, Result.andThen, ext]
  · rename_i k hu
    have h' : cs[off]? = some v := by simpa using h
    simp [part, isAgg, run_underlying' hu, Result.andThen, h']
  · rename_i hu
    have h' : cs[off]? = some v := by simpa using h
    simp [part, isAgg, run_underlying' hu, Result.andThen, h']
  · cases h
theorem eqFields_run {P : Program} {d : Nat} {xs ys : Array Value} (ih : ∀ (t : TypeId) (x y : Value) (r : Bool), eqV P d t x y = some r → ∀ w, (Op.equalIn d t x y).run P w = .ok r w) (w : World) : ∀ (fs : List Field) (r : Bool), eqL (fun f : Field => if f.name ≠ "_" then (partV P f.type xs f.offset).bind fun a => (partV P f.type ys f.offset).bind fun b => eqV P d f.type a b else some true) fs = some r → (Op.eqFields d xs ys fs).run P w = .ok r w
  | [], r, h => by simp [eqL] at h; subst h; rfl
  | f :: fs, r, h => by
    simp only [eqL, Option.bind_eq_some_iff, Option.map_eq_some_iff] at h
    obtain ⟨b, hb, q, hq, rfl⟩ := h
    have ihf := eqFields_run ih w fs q hq
    simp only [Op.eqFields, Sem.run_ite]
    split at hb
    · rename_i hn
      rw [if_pos hn]
      simp only [Option.bind_eq_some_iff] at hb
      obtain ⟨u, hu, v, hv, hb⟩ := hb
      simp only [Sem.run_bind, partV_run hu, partV_run hv, ih _ _ _ _ hb, Result.andThen, Sem.run_ite]
      cases b
      · simp [Sem.run_pure]
      · simpa [Sem.run_pure] using ihf
    · rename_i hn
      rw [if_neg hn]
      injection hb with hb
      subst hb
      simpa using ihf
theorem eqArr_run {P : Program} {d : Nat} {e : TypeId} {sz : Nat} {xs ys : Array Value} (ih : ∀ (t : TypeId) (x y : Value) (r : Bool), eqV P d t x y = some r → ∀ w, (Op.equalIn d t x y).run P w = .ok r w) (w : World) : ∀ (l : List Nat) (q : Bool), eqL (fun j => (partV P e xs (j * sz)).bind fun a => (partV P e ys (j * sz)).bind fun b => eqV P d e a b) l = some q →
    Sem.run P (forIn l ((none, ()) : Option Bool × Unit) fun i _ => do
      let a ← part e xs (i * sz)
      let b ← part e ys (i * sz)
      let c ← Op.equalIn d e a b
      if (!c) = true then pure (ForInStep.done (some false, ())) else pure (ForInStep.yield (none, ()))) w = .ok (if q = true then (none, ()) else (some false, ())) w
  | [], q, h => by simp [eqL] at h; subst h; rfl
  | j :: l, q, h => by
    simp only [eqL, Option.bind_eq_some_iff, Option.map_eq_some_iff] at h
    obtain ⟨b, ⟨u, hu, v, hv, hb⟩, q', hq, rfl⟩ := h
    have ihl := eqArr_run ih w l q' hq
    simp only [List.forIn_cons, Sem.run_bind, partV_run hu, partV_run hv, ih _ _ _ _ hb, Result.andThen]
    cases b
    · simp [Sem.run_pure]
    · simpa [Sem.run_pure, Result.andThen] using ihl
theorem eqV_run {P : Program} : ∀ (d : Nat) (t : TypeId) (x y : Value) (r : Bool), eqV P d t x y = some r → ∀ w, (Op.equalIn d t x y).run P w = .ok r w
  | 0, _, _, _, _, h, _ => by simp [eqV] at h
  | d + 1, t, x, y, r, h, w => by
    unfold eqV at h
    split at h
    · rename_i k0 k a k' b hu
      split at h
      case isFalse => cases h
      rename_i hk
      subst hk
      injection h with h; subst h
      exact run_equalIn_int w d t k k0 a b hu
    · rename_i a b hu
      injection h with h; subst h
      exact run_equalIn_bool' w d t a b hu
    · rename_i fs xs ys hu
      split at h
      · cases h
      rename_i hp
      have hf : P.fieldsOf t = fs := by simp [Program.fieldsOf, hu]
      rw [run_equalIn_agg w d t xs ys (by rw [hf]; exact hu) (by simpa using hp), hf]
      exact eqFields_run (eqV_run d) w fs.toList r h
    · rename_i n e xs ys hu
      simp only [Option.bind_eq_some_iff] at h
      obtain ⟨i, hi, h⟩ := h
      simp only [Op.equalIn, Sem.run_bind, run_underlying' hu, Result.andThen_ok, run_size hi]
      rw [Std.Legacy.Range.forIn_eq_forIn_range']
      have hr : List.range' ([:n] : Std.Legacy.Range).start ([:n] : Std.Legacy.Range).size ([:n] : Std.Legacy.Range).step = List.range n := by
        rw [List.range_eq_range']; simp [Std.Legacy.Range.size]
      rw [hr]
      have := eqArr_run (eqV_run d) w (List.range n) r h
      rw [this]
      cases r <;> rfl
    · cases h
def valsOf : List AV → Option (List Value)
  | [] => some []
  | .val v :: l => (valsOf l).map (v :: ·)
  | _ => none
theorem valsOf_ok {ρ : Ren} : ∀ {as : List AV} {vs us : List Value}, valsOf as = some vs → VRs ρ as us → us = vs
  | [], vs, us, h, hv => by
    simp [valsOf] at h; subst h
    match us, hv with
    | [], _ => rfl
    | _ :: _, hv => simp [VRs] at hv
  | a :: as, vs, us, h, hv => by
    match us, hv with
    | [], hv => simp [VRs] at hv
    | u :: us, hv =>
      simp only [VRs] at hv
      cases a with
      | val v =>
        simp only [valsOf, Option.map_eq_some_iff] at h
        obtain ⟨l, hl, rfl⟩ := h
        have h1 : u = v := hv.1
        rw [h1, valsOf_ok hl hv.2]
      | _ => simp [valsOf] at h
def eqK {β : Type} (P : Program) (op : BinOp) (t : TypeId) (a b : AV) (K : Eff → Option β) (base : Option β) : Option β :=
  match op, a, b with
  | .eql, .agg xs, .agg ys => (match valsOf xs, valsOf ys with
    | some us, some vs => if P.eqGuardType P.depth t = true then base else (match eqV P 10000 t (.agg ⟨us⟩) (.agg ⟨vs⟩) with
      | some r => K { val := .val (.bool r) }
      | none => base)
    | _, _ => base)
  | .neq, .agg xs, .agg ys => (match valsOf xs, valsOf ys with
    | some us, some vs => if P.eqGuardType P.depth t = true then base else (match eqV P 10000 t (.agg ⟨us⟩) (.agg ⟨vs⟩) with
      | some r => K { val := .val (.bool (!r)) }
      | none => base)
    | _, _ => base)
  | _, _, _ => base
theorem eqK_ok {β : Type} {P : Program} {o : Oper} {op : BinOp} {t yt : TypeId} {x y : Operand} (hop : o.op = .binOp op t x y yt) {E : Operand → AV} {H : Nat → Ent} {new : Nat} {K : Eff → Option β} {base : Option β} {r : β}
    (hbase : base = some r → ∃ e, K e = some r ∧ EffOK P o E H new e) (h : eqK P op t (E x) (E y) K base = some r) : ∃ e, K e = some r ∧ EffOK P o E H new e := by
  have fin : ∀ (xs ys : List AV) (us vs : List Value) (q : Bool), E x = .agg xs → E y = .agg ys → valsOf xs = some us → valsOf ys = some vs → P.eqGuardType P.depth t = false → eqV P 10000 t (.agg ⟨us⟩) (.agg ⟨vs⟩) = some q → ∀ q' : Bool, (op = .eql ∧ q' = q ∨ op = .neq ∧ q' = !q) → EffOK P o E H new { val := .val (.bool q') } := by
    intro xs ys us vs q hx hy h1 h2 hg hq q' hq' Γ ρ hp wd act hI hE _ _ _
    refine lstep_of_ok ?_
    have vx := hE x (by simp [hop, Op.operands])
    have vy := hE y (by simp [hop, Op.operands])
    rw [hx] at vx
    rw [hy] at vy
    simp only [VR] at vx vy
    obtain ⟨cx, ex, vx⟩ := vx
    obtain ⟨cy, ey, vy⟩ := vy
    have cx' : cx = ⟨us⟩ := Array.toList_inj.1 (valsOf_ok h1 vx)
    have cy' : cy = ⟨vs⟩ := Array.toList_inj.1 (valsOf_ok h2 vy)
    subst cx'; subst cy'
    refine .pure hI (.bool q') ?_ (by simp [VR]) rfl
    simp only [execOp, hop, ex, ey]
    refine run_v ?_
    have hr := eqV_run 10000 t _ _ q hq wd
    rcases hq' with ⟨rfl, rfl⟩ | ⟨rfl, rfl⟩
    · simp only [Sem.run_bind, run_eqGuard_agg wd .eql t x y ⟨us⟩ ⟨vs⟩ hg, Result.andThen, run_eql_struct, hr]
    · simp only [Sem.run_bind, run_eqGuard_agg wd .neq t x y ⟨us⟩ ⟨vs⟩ hg, Result.andThen, run_neq_struct, hr]
  unfold eqK at h
  split at h
  · rename_i xs ys hx hy
    split at h
    case h_2 => exact hbase h
    rename_i us vs h1 h2
    split at h
    · exact hbase h
    rename_i hg
    split at h
    case h_2 => exact hbase h
    rename_i q hq
    exact ⟨_, h, fin xs ys us vs q hx hy h1 h2 (by simpa using hg) hq q (.inl ⟨rfl, rfl⟩)⟩
  · rename_i xs ys hx hy
    split at h
    case h_2 => exact hbase h
    rename_i us vs h1 h2
    split at h
    · exact hbase h
    rename_i hg
    split at h
    case h_2 => exact hbase h
    rename_i q hq
    exact ⟨_, h, fin xs ys us vs q hx hy h1 h2 (by simpa using hg) hq (!q) (.inr ⟨rfl, rfl⟩)⟩
  · exact hbase h
def nnB (c : Cap) (n : Nat) : Bool := match c with
  | .nn => true
  | _ => decide (0 < n)
theorem VR.nn {ρ : Ren} {b o n : Nat} {c : Cap} {cv : Value} (h : VR ρ (.slc b o n c) cv) (hb : nnB c n = true) : ∃ ad c', cv = .slice (some ad) n c' := by
  by_cases hc : c = .nn
  · subst hc
    simp only [VR] at h
    rcases h with ⟨cb, co, cc, c', _, _, h⟩ | ⟨h0, a, h⟩
    · exact ⟨_, _, h⟩
    · exact ⟨a, 0, by rw [h, h0]⟩
  · have h0 : 0 < n := by
      unfold nnB at hb
      split at hb
      · exact absurd rfl hc
      · exact of_decide_eq_true hb
    rcases h.slc_cases with ⟨cb, co, cc, c', _, _, h⟩ | ⟨h1, _, _⟩
    · exact ⟨_, _, h⟩
    · omega
def nilK {β : Type} (P : Program) (op : BinOp) (t : TypeId) (a b : AV) (K : Eff → Option β) (base : Option β) : Option β :=
  match op, a, b, P.underlying t with
  | .eql, .slc _ _ n c, .val (.slice none 0 0), some (.slice _) => ifK (nnB c n) (K { val := .val (.bool false) })
  | .neq, .slc _ _ n c, .val (.slice none 0 0), some (.slice _) => ifK (nnB c n) (K { val := .val (.bool true) })
  | .eql, .val (.slice none 0 0), .val (.slice none 0 0), some (.slice _) => K { val := .val (.bool true) }
  | .neq, .val (.slice none 0 0), .val (.slice none 0 0), some (.slice _) => K { val := .val (.bool false) }
  | _, _, _, _ => base
theorem nilK_ok {β : Type} {P : Program} {o : Oper} {op : BinOp} {t yt : TypeId} {x y : Operand} (hop : o.op = .binOp op t x y yt) {E : Operand → AV} {H : Nat → Ent} {new : Nat} {K : Eff → Option β} {base : Option β} {r : β}
    (hbase : base = some r → ∃ e, K e = some r ∧ EffOK P o E H new e) (h : nilK P op t (E x) (E y) K base = some r) : ∃ e, K e = some r ∧ EffOK P o E H new e := by
  unfold nilK at h
  split at h
  · rename_i b ofs n c e hx hy hu
    obtain ⟨hb, hK⟩ := ifK_some h
    refine ⟨_, hK, fun Γ ρ hp w a hI hE hH hn hfree => lstep_of_ok ?_⟩
    have vx := hE x (by simp [hop, Op.operands])
    have vy := hE y (by simp [hop, Op.operands])
    rw [hx] at vx
    rw [hy] at vy
    simp only [VR] at vy
    obtain ⟨ad, c', k4⟩ := vx.nn hb
    · refine .pure hI (.bool false) ?_ (by simp [VR]) rfl
      simp only [execOp, hop, k4, vy]
      refine run_v ?_
      have hg : eqGuard BinOp.eql t x y (.slice (some ad) n c') (.slice none 0 0) = pure () := rfl
      simp only [Sem.run_bind, hg, Sem.run_pure, Result.andThen, binOp, run_equal_slice_nil w t e _ n c' hu]
      rfl
  · rename_i b ofs n c e hx hy hu
    obtain ⟨hb, hK⟩ := ifK_some h
    refine ⟨_, hK, fun Γ ρ hp w a hI hE hH hn hfree => lstep_of_ok ?_⟩
    have vx := hE x (by simp [hop, Op.operands])
    have vy := hE y (by simp [hop, Op.operands])
    rw [hx] at vx
    rw [hy] at vy
    simp only [VR] at vy
    obtain ⟨ad, c', k4⟩ := vx.nn hb
    · refine .pure hI (.bool true) ?_ (by simp [VR]) rfl
      simp only [execOp, hop, k4, vy]
      refine run_v ?_
      have hg : eqGuard BinOp.neq t x y (.slice (some ad) n c') (.slice none 0 0) = pure () := rfl
      simp only [Sem.run_bind, hg, Sem.run_pure, Result.andThen, binOp, run_equal_slice_nil w t e _ n c' hu]
      rfl
  · rename_i e hx hy hu
    refine ⟨_, h, fun Γ ρ hp w a hI hE hH hn hfree => lstep_of_ok ?_⟩
    have vx := hE x (by simp [hop, Op.operands])
    have vy := hE y (by simp [hop, Op.operands])
    rw [hx] at vx
    rw [hy] at vy
    simp only [VR] at vx vy
    refine .pure hI (.bool true) ?_ (by simp [VR]) rfl
    simp only [execOp, hop, vx, vy]
    refine run_v ?_
    have hg : eqGuard BinOp.eql t x y (.slice none 0 0) (.slice none 0 0) = pure () := rfl
    simp only [Sem.run_bind, hg, Sem.run_pure, Result.andThen, binOp, run_equal_slice_nil w t e none 0 0 hu]
    rfl
  · rename_i e hx hy hu
    refine ⟨_, h, fun Γ ρ hp w a hI hE hH hn hfree => lstep_of_ok ?_⟩
    have vx := hE x (by simp [hop, Op.operands])
    have vy := hE y (by simp [hop, Op.operands])
    rw [hx] at vx
    rw [hy] at vy
    simp only [VR] at vx vy
    refine .pure hI (.bool false) ?_ (by simp [VR]) rfl
    simp only [execOp, hop, vx, vy]
    refine run_v ?_
    have hg : eqGuard BinOp.neq t x y (.slice none 0 0) (.slice none 0 0) = pure () := rfl
    simp only [Sem.run_bind, hg, Sem.run_pure, Result.andThen, binOp, run_equal_slice_nil w t e none 0 0 hu]
    rfl
  · exact hbase h
section
variable {P : Program} {t u ty el : TypeId} {ie : TypeInfo} {z : Value}
end
def forceL {α β : Type} : List α → (List α → β) → β
  | [], k => k []
  | x :: l, k => forceL l fun l' => k (x :: l')
theorem forceL_eq {α β : Type} : ∀ (l : List α) (k : List α → β), forceL l k = k l
  | [], _ => rfl
  | x :: l, k => by rw [forceL, forceL_eq l]
def forceE {β : Type} (f : Bool) (e : Eff) (K : Eff → Option β) : Option β :=
  match f, e with
  | true, ⟨rb, [(x, .live ⟨.arr s l, r, g⟩)], nw, v, ob⟩ => forceL l fun l' => K ⟨rb, [(x, .live ⟨.arr s l', r, g⟩)], nw, v, ob⟩
  | true, ⟨rb, [d, (x, .live ⟨.arr s l, r, g⟩)], nw, v, ob⟩ => forceL l fun l' => K ⟨rb, [d, (x, .live ⟨.arr s l', r, g⟩)], nw, v, ob⟩
  | _, e => K e
theorem forceE_eq {β : Type} (f : Bool) (e : Eff) (K : Eff → Option β) : forceE f e K = K e := by
  unfold forceE
  split
  · rw [forceL_eq]
  · rw [forceL_eq]
  · rfl
def Env.forced {P : Program} (env : Env P) : Bool := match env.l with
  | [] => false
  | s :: _ => s.f == 1000000
def fltK {β : Type} (P : Program) (src dst : TypeId) (x : AV) (K : Eff → Option β) (F : Option β) : Option β :=
  match P.underlying src, P.underlying dst, x with
  | some _, some (.float k), .val (.int _ n) => K { val := .val (.float k (k.nearest n)) }
  | some _, some (.int k), .val (.float s b) => (match (s.decode b).toInt .zero with
    | some n => ifK (decide (k.min ≤ n ∧ n ≤ k.max)) (K { val := .val (.int k n) })
    | none => none)
  | _, _, _ => F
theorem fltK_ok {β : Type} {P : Program} {o : Oper} {src dst : TypeId} {x : Operand} (hop : o.op = .convert src dst x) {E : Operand → AV} {H : Nat → Ent} {new : Nat} {K : Eff → Option β} {F : Option β} {r : β} (hF : F = some r → ∃ e, K e = some r ∧ EffOK P o E H new e) (h : fltK P src dst (E x) K F = some r) : ∃ e, K e = some r ∧ EffOK P o E H new e := by
  unfold fltK at h
  split at h
  · rename_i d k ik n hs hd hx
    refine ⟨_, h, fun Γ ρ hp wd act hI hE hH hn hfree => lstep_of_ok ?_⟩
    have hv := hE x (by simp [hop, Op.operands])
    rw [hx] at hv
    simp only [VR] at hv
    refine .pure hI (.float k (k.nearest n)) ?_ (by simp [VR]) rfl
    simp only [execOp, hop, hv]
    refine run_v ?_
    simp only [convert, Sem.run_bind, run_underlying' hs, run_underlying' hd, Result.andThen]
    cases d <;> rfl
  · rename_i d k s b hs hd hx
    split at h
    case h_2 => cases h
    rename_i n hn0
    obtain ⟨hq, hK⟩ := ifK_some h
    have hq := of_decide_eq_true hq
    refine ⟨_, hK, fun Γ ρ hp wd act hI hE hH hn hfree => lstep_of_ok ?_⟩
    have hv := hE x (by simp [hop, Op.operands])
    rw [hx] at hv
    simp only [VR] at hv
    refine .pure hI (.int k n) ?_ (by simp [VR]) rfl
    simp only [execOp, hop, hv]
    refine run_v ?_
    simp only [convert, Sem.run_bind, run_underlying' hs, run_underlying' hd, Result.andThen]
    have e : (Conv.floatToInt s b k).run P wd = .ok (.int k n) wd := by
      simp only [Conv.floatToInt, hn0, if_pos hq]; rfl
    cases d <;> exact e
  · exact hF h
def cpxV (op : BinOp) (k : FloatKind) (a b c d : Nat) : Option Value :=
  match op with
  | .add => (match k.format.add a c, k.format.add b d with | some r, some i => some (.complex k r i) | _, _ => none)
  | .sub => (match k.format.sub a c, k.format.sub b d with | some r, some i => some (.complex k r i) | _, _ => none)
  | _ => none
def cpxK {β : Type} (op : BinOp) (x y : AV) (K : Eff → Option β) (F : Option β) : Option β :=
  match x, y with
  | .val (.complex k a b), .val (.complex k' c d) => if k = k' then (match cpxV op k a b c d with
    | some v => K { val := .val v }
    | none => none) else none
  | _, _ => F
theorem cpxV_run {P : Program} {op : BinOp} {k : FloatKind} {a b c d : Nat} {v : Value} (h : cpxV op k a b c d = some v) (t : TypeId) (X Y : Operand) (w : World) : ((do eqGuard op t X Y (.complex k a b) (.complex k c d); binOp op t (.complex k a b) (.complex k c d)) : Sem Value).run P w = .ok v w ∧ ∃ r i, v = .complex k r i := by
  unfold cpxV at h
  split at h
  · split at h
    case h_2 => cases h
    rename_i r i h1 h2
    injection h with h; subst h
    refine ⟨?_, _, _, rfl⟩
    simp only [binOp, ne_eq, not_true_eq_false, if_false, Op.complexOp, Op.Complex.arith, Op.floatArith, h1, h2]
    rfl
  · split at h
    case h_2 => cases h
    rename_i r i h1 h2
    injection h with h; subst h
    refine ⟨?_, _, _, rfl⟩
    simp only [binOp, ne_eq, not_true_eq_false, if_false, Op.complexOp, Op.Complex.arith, Op.floatArith, h1, h2]
    rfl
  · cases h
theorem cpxK_ok {β : Type} {P : Program} {o : Oper} {op : BinOp} {t yt : TypeId} {x y : Operand} (hop : o.op = .binOp op t x y yt) {E : Operand → AV} {H : Nat → Ent} {new : Nat} {K : Eff → Option β} {F : Option β} {r : β} (hF : F = some r → ∃ e, K e = some r ∧ EffOK P o E H new e) (h : cpxK op (E x) (E y) K F = some r) : ∃ e, K e = some r ∧ EffOK P o E H new e := by
  unfold cpxK at h
  split at h
  · rename_i k a b k' c d hx hy
    split at h
    case isFalse => cases h
    rename_i hk; subst hk
    split at h
    case h_2 => cases h
    rename_i v hcv
    refine ⟨_, h, fun Γ ρ hp wd act hI hE hH hn hfree => lstep_of_ok ?_⟩
    have h1 := hE x (by simp [hop, Op.operands])
    have h2 := hE y (by simp [hop, Op.operands])
    rw [hx] at h1; rw [hy] at h2
    simp only [VR] at h1 h2
    obtain ⟨hr, re, im, hv⟩ := cpxV_run (P := P) hcv t x y wd
    refine .pure hI v ?_ (by subst hv; simp [VR]) rfl
    simp only [execOp, hop, h1, h2]
    exact run_v hr
  · exact hF h
def partK {β : Type} (re : Bool) (x : AV) (K : Eff → Option β) : Option β :=
  match x with
  | .val (.complex k a b) => K { val := .val (.float k (bif re then a else b)) }
  | _ => none
theorem partK_ok {β : Type} {P : Program} {o : Oper} {re : Bool} {x : Operand} {ts : Array TypeId} (hop : o.op = .call { callee := .builtin (bif re then .real else .imag), args := #[x], argTypes := ts }) {E : Operand → AV} {H : Nat → Ent} {new : Nat} {K : Eff → Option β} {r : β} (h : partK re (E x) K = some r) : ∃ e, K e = some r ∧ EffOK P o E H new e := by
  unfold partK at h
  split at h
  · rename_i k a b hx
    refine ⟨_, h, fun Γ ρ hp wd act hI hE hH hn hfree => lstep_of_ok ?_⟩
    have h1 := hE x (by simp [hop, Op.operands, Call.operands])
    rw [hx] at h1
    simp only [VR] at h1
    refine .pure hI (.float k (bif re then a else b)) ?_ (by simp [VR]) rfl
    simp only [execOp, hop, resolve]
    cases re
    · show ((do pure (Next.value (← Builtin.imag_ ts o.type (#[x].map act.eval)))) : Sem Next).run P wd = _
      have e : #[x].map act.eval = #[.complex k a b] := by simp [h1]
      rw [e]
      exact run_v rfl
    · show ((do pure (Next.value (← Builtin.real_ ts o.type (#[x].map act.eval)))) : Sem Next).run P wd = _
      have e : #[x].map act.eval = #[.complex k a b] := by simp [h1]
      rw [e]
      exact run_v rfl
  · cases h
def mkcK {β : Type} (x y : AV) (K : Eff → Option β) : Option β :=
  match x, y with
  | .val (.float k a), .val (.float k' b) => if k = k' then K { val := .val (.complex k a b) } else none
  | _, _ => none
theorem mkcK_ok {β : Type} {P : Program} {o : Oper} {x y : Operand} {ts : Array TypeId} (hop : o.op = .call { callee := .builtin .complex, args := #[x, y], argTypes := ts }) {E : Operand → AV} {H : Nat → Ent} {new : Nat} {K : Eff → Option β} {r : β} (h : mkcK (E x) (E y) K = some r) : ∃ e, K e = some r ∧ EffOK P o E H new e := by
  unfold mkcK at h
  split at h
  · rename_i k a k' b hx hy
    split at h
    case isFalse => cases h
    rename_i hk; subst hk
    refine ⟨_, h, fun Γ ρ hp wd act hI hE hH hn hfree => lstep_of_ok ?_⟩
    have h1 := hE x (by simp [hop, Op.operands, Call.operands])
    have h2 := hE y (by simp [hop, Op.operands, Call.operands])
    rw [hx] at h1; rw [hy] at h2
    simp only [VR] at h1 h2
    refine .pure hI (.complex k a b) ?_ (by simp [VR]) rfl
    simp only [execOp, hop, resolve]
    show ((do pure (Next.value (← Builtin.complex_ ts o.type (#[x, y].map act.eval)))) : Sem Next).run P wd = _
    have e : #[x, y].map act.eval = #[.float k a, .float k b] := by simp [h1, h2]
    rw [e]
    refine run_v ?_
    show ((if k = k then pure (Value.complex k a b) else stuck "complex: parts of different kinds") : Sem Value).run P wd = _
    rw [if_pos rfl]; rfl
  · cases h
def opK {β : Type} (P : Program) (env : Env P) (o : Oper) (E : Operand → AV) (H : Nat → Ent) (new : Nat) (K : Eff → Option β) : Option β :=
  match o.op with
  | .call { callee := .value fo, args := as, .. } => callK env as fo E H new K
  | .call { callee := .builtin .append, args := as, argTypes := ts } => (match as.toList, ts.toList with
    | [x, y], [t, t'] => if t' = t then appK P t (E x) (E y) H new (fun e => forceE env.forced e K) else none
    | _, _ => none)
  | .call { callee := .builtin .real, args := as, .. } => (match as.toList with
    | [x] => partK true (E x) K
    | _ => none)
  | .call { callee := .builtin .imag, args := as, .. } => (match as.toList with
    | [x] => partK false (E x) K
    | _ => none)
  | .call { callee := .builtin .complex, args := as, .. } => (match as.toList with
    | [x, y] => mkcK (E x) (E y) K
    | _ => none)
  | .indexAddr t x i => idxAddrK P t (E x) (E i) H K
  | .index t x i => idxK P t (E x) (E i) K
  | .slice t x lo hi none => sliceK P t E x lo hi K
  | .slice t x lo (some hi) (some mx) => slice3K P t E x lo hi mx K
  | .load t x => (match E x with
    | .elt b k i w f => eltLoadK P t b k i w f H new K
    | _ => baseK P o E H new K)
  | .fieldAddr s x f => (match E x with
    | .elt b k i w g => (match fieldOf P s f with
      | none => none
      | some fd => match P.info? fd.type with
        | none => none
        | some i' => if i'.size = 0 then none else K { val := .elt b k i w (g + fd.offset) })
    | _ => baseK P o E H new K)
  | .binOp op t x y _ => binK P o E op x y K (cpxK op (E x) (E y) K (eqK P op t (E x) (E y) K (nilK P op t (E x) (E y) K (baseK P o E H new K))))
  | .makeInterface t x => ifaceK P t (E x) K
  | .buildSlice t 0 ⟨[]⟩ => emptyK P t new K
  | .convert src dst x => fltK P src dst (E x) K (baseK P o E H new K)
  | .makeSlice t x y => (match x, y with
    | .tmp i, .tmp j => if i = j then makeNK P t (E (.tmp i)) new K else makeK P t (E x) (E y) new K
    | _, _ => makeK P t (E x) (E y) new K)
  | .store t x y => (match E x with
    | .elt b k i w f => eltStoreK P t b k i w f H (E y) K
    | _ => baseK P o E H new K)
  | _ => baseK P o E H new K
theorem opK_ok {β : Type} {P : Program} {env : Env P} {o : Oper} {E : Operand → AV} {H : Nat → Ent} {new : Nat} {K : Eff → Option β} {r : β} (h : opK P env o E H new K = some r) : ∃ e, K e = some r ∧ EffOKY P env.Y o E H new e := by
  unfold opK at h
  split at h
  · rename_i fo as ts hop
    exact callK_ok hop h
  · rename_i as ts hop
    split at h
    case h_2 => cases h
    rename_i x y t t' has hts
    have e1 : as = #[x, y] := Array.toList_inj.1 has
    have e2 : ts = #[t, t'] := Array.toList_inj.1 hts
    subst e1; subst e2
    split at h
    · rename_i htt
      subst htt
      obtain ⟨e, hk, hok⟩ := appK_ok hop h
      rw [forceE_eq] at hk
      exact ⟨e, hk, EffOK.y fun Γ ρ hp w a hI hE hH hn hfree => lstep_of_ok (hok Γ ρ hp w a hI hE hH hn hfree)⟩
    · cases h
  · rename_i as ts hop
    split at h
    case h_2 => cases h
    rename_i x has
    have e1 : as = #[x] := Array.toList_inj.1 has
    subst e1
    exact effOK_y (partK_ok (re := true) hop h)
  · rename_i as ts hop
    split at h
    case h_2 => cases h
    rename_i x has
    have e1 : as = #[x] := Array.toList_inj.1 has
    subst e1
    exact effOK_y (partK_ok (re := false) hop h)
  · rename_i as ts hop
    split at h
    case h_2 => cases h
    rename_i x y has
    have e1 : as = #[x, y] := Array.toList_inj.1 has
    subst e1
    exact effOK_y (mkcK_ok hop h)
  · rename_i t x i hop
    exact effOK_y (idxAddrK_ok hop h)
  · rename_i t x i hop
    exact effOK_y (idxK_ok hop h)
  · rename_i t x lo hi hop
    exact effOK_y (sliceK_ok hop h)
  · rename_i t x lo hi mx hop
    exact effOK_y (slice3K_ok hop h)
  · rename_i t x hop
    split at h
    · rename_i b k i w f hx
      exact effOK_y (eltLoadK_ok hop hx h)
    · exact effOK_y (baseK_ok h)
  · rename_i s x f hop
    split at h
    · rename_i b k i w g hx
      split at h
      · cases h
      rename_i fd hfd
      split at h
      · cases h
      rename_i i' hi'
      split at h
      · cases h
      rename_i hsz
      refine ⟨_, h, EffOK.y fun Γ ρ hp wd act hI hE hH hn hfree => lstep_of_ok ?_⟩
      have hv := hE x (by simp [hop, Op.operands])
      rw [hx] at hv
      have hv' : VR ρ (.ptr b (k + i * w + g)) (act.eval x) := by simpa [VR] using hv
      obtain ⟨ρ', nx, cv, w', h1, h2, h3, h4, h5⟩ := coreFieldAddr_ok (P := P) (s := s) (f := f) hI hv' (e := { val := .ptr b (k + i * w + g + fd.offset) }) (by simp [coreFieldAddr, hfd, hi', hsz])
      refine ⟨ρ', nx, cv, w', by simpa only [execOp, hop] using h1, h2, h3, ?_, h5⟩
      simp only [VR] at h4 ⊢
      obtain ⟨cb, co, cc, h6, h7⟩ := h4
      exact ⟨cb, co, cc, h6, by rw [h7]; congr 3; omega⟩
    · exact effOK_y (baseK_ok h)
  · rename_i op t x y yt hop
    exact effOK_y (binK_ok hop (fun h => cpxK_ok hop (fun h => eqK_ok hop (fun h => nilK_ok hop baseK_ok h) h) h) h)
  · rename_i t x hop
    exact effOK_y (ifaceK_ok hop h)
  · rename_i t hop
    exact effOK_y (emptyK_ok hop h)
  · rename_i src dst x hop
    exact effOK_y (fltK_ok hop baseK_ok h)
  · rename_i t x y hop
    split at h
    · rename_i i j
      split at h
      · rename_i hij
        subst hij
        exact effOK_y (makeNK_ok hop h)
      · exact effOK_y (makeK_ok hop h)
    · exact effOK_y (makeK_ok hop h)
  · rename_i t x y hop
    split at h
    · rename_i b k i w f hx
      exact effOK_y (eltStoreK_ok hop hx h)
    · exact effOK_y (baseK_ok h)
  · exact effOK_y (baseK_ok h)
end Go.Ab
namespace Go.Ab
def distinct : List Nat → Bool
  | [] => true
  | x :: l => !l.contains x && distinct l
def blockObs (σ : List (Nat × Nat)) (n : Nat) (h : Heap) : List (Nat × Nat) → List Ent → Option (List Ob)
  | [], [] => some []
  | (x, _) :: s, e :: es => match e with
    | .free => none
    | .dead => blockObs σ n h s es
    | .live b => (blockObs σ n h s es).map fun l => Ob.ent (h.get x) (.live (renBlk σ n 0 b)) :: l
  | _, _ => none
def startsSame : Nat → Nat → List Nat → Bool
  | 0, _, _ => true
  | n + 1, i, x :: l => decide (x = i) && startsSame n (i + 1) l
  | _ + 1, _, [] => false
def weakObs (n0 : Nat) (σ : List Nat) (t t2 : List AV) (h h2 : Heap) : Option (List Ob) :=
  let σ' := σ.map fun x => (x, 0)
  let n := h2.length
  if σ.length = n ∧ n0 ≤ n ∧ startsSame n0 0 σ = true ∧ distinct σ = true ∧ (okL n t2 && okEnts n h2) = true then
    (blockObs σ' n h σ' h2).map fun l => Ob.avs (adapts (renL σ' n 0 t2) t) (renL σ' n 0 t2) :: l
  else none
theorem startsSame_spec : ∀ (n i : Nat) (l : List Nat), startsSame n i l = true → ∀ k, k < n → l[k]? = some (i + k)
  | 0, _, _, _, k, hk => by omega
  | n + 1, i, x :: l, h, k, hk => by
    simp only [startsSame, Bool.and_eq_true, decide_eq_true_eq] at h
    cases k with
    | zero => simp [h.1]
    | succ k => simpa [Nat.add_assoc, Nat.add_comm 1 k] using startsSame_spec n (i + 1) l h.2 k (by omega)
  | n + 1, _, [], h, _, _ => by simp [startsSame] at h
theorem distinct_spec : ∀ (l : List Nat), distinct l = true → ∀ (i j x y : Nat), i < j → l[i]? = some x → l[j]? = some y → x ≠ y
  | [], _, i, j, x, y, _, h, _ => by simp at h
  | a :: l, h, i, j, x, y, hij, hi, hj => by
    simp only [distinct, Bool.and_eq_true, Bool.not_eq_true'] at h
    cases j with
    | zero => omega
    | succ j =>
      cases i with
      | zero =>
        simp at hi hj; subst hi
        intro e; subst e
        have := List.mem_of_getElem? hj
        simp [this] at h
      | succ i => exact distinct_spec l h.2 i j x y (by omega) (by simpa using hi) (by simpa using hj)
theorem blockObs_spec {σ : List (Nat × Nat)} {n : Nat} {h : Heap} : ∀ (s : List (Nat × Nat)) (es : List Ent) (r : List Ob), blockObs σ n h s es = some r →
    (∀ i, i < es.length → es[i]? ≠ some .free) ∧ ∀ (i : Nat) (b : Blk) (x o : Nat), es[i]? = some (.live b) → s[i]? = some (x, o) → Ob.ent (h.get x) (.live (renBlk σ n 0 b)) ∈ r
  | [], [], r, hr => by simp [blockObs] at hr; subst hr; exact ⟨fun i hi => by simp at hi, fun i b x o hi => by simp at hi⟩
  | (x0, o0) :: s, e :: es, r, hr => by
    cases e with
    | free => simp [blockObs] at hr
    | dead =>
      simp only [blockObs] at hr
      obtain ⟨h1, h2⟩ := blockObs_spec s es r hr
      refine ⟨fun i hi => ?_, fun i b x o hi hs => ?_⟩
      · cases i with
        | zero => simp
        | succ i => simpa using h1 i (by simpa using hi)
      · cases i with
        | zero => simp at hi
        | succ i => exact h2 i b x o (by simpa using hi) (by simpa using hs)
    | live b0 =>
      simp only [blockObs, Option.map_eq_some_iff] at hr
      obtain ⟨l, hl, rfl⟩ := hr
      obtain ⟨h1, h2⟩ := blockObs_spec s es l hl
      refine ⟨fun i hi => ?_, fun i b x o hi hs => ?_⟩
      · cases i with
        | zero => simp
        | succ i => simpa using h1 i (by simpa using hi)
      · cases i with
        | zero =>
          simp at hi hs
          obtain ⟨rfl, rfl⟩ := hs
          subst hi
          exact List.mem_cons_self ..
        | succ i => exact List.mem_cons_of_mem _ (h2 i b x o (by simpa using hi) (by simpa using hs))
  | [], _ :: _, r, hr => by simp [blockObs] at hr
  | _ :: _, [], r, hr => by simp [blockObs] at hr
theorem weak_ok {n0 : Nat} {σ : List Nat} {t t2 : List AV} {h h2 : Heap} {l : List Ob} (hw : weakObs n0 σ t t2 h h2 = some l) (hob : ∀ p ∈ l, p.holds) {Γ : Ctx} (hn : Γ.n0 = n0) {ρ : Ren} {w : World} {cs : List Value} (hI : Inv Γ ρ h w) (hV : VRs ρ t cs) :
    n0 ≤ h2.length ∧ ∃ ρ2, Inv Γ ρ2 h2 w ∧ VRs ρ2 t2 cs := by
  unfold weakObs at hw
  simp only at hw
  split at hw
  case isFalse => cases hw
  rename_i hcond
  obtain ⟨hlen, hn0, hsame, hdis, hok⟩ := hcond
  simp only [Bool.and_eq_true] at hok
  simp only [Option.map_eq_some_iff] at hw
  obtain ⟨l0, hl0, rfl⟩ := hw
  simp only [List.mem_cons, forall_eq_or_imp] at hob
  obtain ⟨hslots, hblocks⟩ := hob
  obtain ⟨hnf, hbl⟩ := blockObs_spec _ _ _ hl0
  refine ⟨hn0, ?_⟩
  let σ' := σ.map fun x => (x, 0)
  let ρ2 : Ren := ⟨fun i => match σ[i]? with
    | some x => ρ x
    | none => none, ρ.base⟩
  have tied : Tied σ' h2.length 0 h2.length ρ ρ2 := by
    refine ⟨by simp [σ', hlen], rfl, fun b x off hb => ?_, fun b h1 h2 => by omega⟩
    simp only [σ', List.getElem?_map, Option.map_eq_some_iff] at hb
    obtain ⟨y, hy, he⟩ := hb
    injection he with e1 e2; subst e1; subst e2
    simp only [ρ2, hy]
    cases ρ y with
    | none => rfl
    | some d => simp
  have get_of : ∀ i blk, h2.get i = .live blk → h2[i]? = some (.live blk) ∧ i < h2.length := fun i blk hi => by
    rcases Nat.lt_or_ge i h2.length with h' | h'
    · rw [Heap.get, List.getD_eq_getElem?_getD, List.getElem?_eq_getElem h'] at hi
      exact ⟨by rw [List.getElem?_eq_getElem h']; simpa using hi, h'⟩
    · simp [Heap.get, List.getD_eq_getElem?_getD, List.getElem?_eq_none h'] at hi
  have live_of : ∀ i blk, h2.get i = .live blk → ∃ x, σ[i]? = some x ∧ h.get x = .live (renBlk σ' h2.length 0 blk) ∧ ρ2 i = ρ x := by
    intro i blk hi
    obtain ⟨h1, h3⟩ := get_of i blk hi
    have h4 : i < σ.length := by omega
    refine ⟨σ[i], List.getElem?_eq_getElem h4, hblocks _ (hbl i blk σ[i] 0 h1 (by simp [h4])), ?_⟩
    simp only [ρ2, List.getElem?_eq_getElem h4]
  have sold : ∀ blk d, blk.solid d → (renBlk σ' h2.length 0 blk).solid d := fun blk d hs => by
    rcases hs with hs | hs
    · exact .inl (by simpa [renBlk, renCells_len] using hs)
    · exact .inr hs
  refine ⟨ρ2, ⟨⟨?_, ?_, ?_, ?_, ?_, ?_, hI.sim.baseLe, hI.sim.old, ?_⟩, ?_, hI.sameBase, hI.os, hI.tape, hI.output, hI.size, hI.keep, ?_⟩, ?_⟩
  · intro i blk hi
    obtain ⟨x, h1, h3, h4⟩ := live_of i blk hi
    rw [h4]; exact hI.sim.some_ x _ h3
  · intro i blk d hi hd
    obtain ⟨x, h1, h3, h4⟩ := live_of i blk hi
    rw [h4] at hd
    exact (CellsAt.ren tied w _ _ _ (okEnts_get hok.2 (get_of i blk hi).1)).1 (hI.sim.cells x _ d h3 hd)
  · intro i blk d hi hd hs
    obtain ⟨x, h1, h3, h4⟩ := live_of i blk hi
    rw [h4] at hd
    exact hI.sim.inside x _ d h3 hd (sold _ _ hs)
  · intro i blk d hi hd hr hs
    obtain ⟨x, h1, h3, h4⟩ := live_of i blk hi
    rw [h4] at hd
    obtain ⟨b1, cs', el, b2, b3, b4⟩ := hI.sim.own x _ d h3 hd hr (sold _ _ hs)
    exact ⟨b1, cs', el, b2, by simpa [renBlk, renCells_len] using b3, b4⟩
  · intro i j blk blk' d d' hi hj hij hd hd' hr hs hs'
    obtain ⟨x, h1, h3, h4⟩ := live_of i blk hi
    obtain ⟨y, k1, k3, k4⟩ := live_of j blk' hj
    rw [h4] at hd; rw [k4] at hd'
    have hne : x ≠ y := by
      rcases Nat.lt_or_gt_of_ne hij with hlt | hgt
      · exact distinct_spec σ hdis i j x y hlt h1 k1
      · exact fun e => distinct_spec σ hdis j i y x hgt k1 h1 e.symm
    exact hI.sim.apart x y _ _ d d' h3 k3 hne hd hd' hr (sold _ _ hs) (sold _ _ hs')
  · intro i hi
    by_cases hl : i < h2.length
    · exfalso
      rw [Heap.get, List.getD_eq_getElem?_getD, List.getElem?_eq_getElem hl] at hi
      exact hnf i hl (by rw [List.getElem?_eq_getElem hl]; simpa using hi)
    · simp only [ρ2, List.getElem?_eq_none (show σ.length ≤ i by omega)]
  · intro i blk d hi hd hr hs
    obtain ⟨x, h1, h3, h4⟩ := live_of i blk hi
    rw [h4] at hd
    exact hI.sim.above x _ d h3 hd hr (sold _ _ hs)
  · intro b hb
    have := startsSame_spec n0 0 σ hsame b (by omega)
    simp only [ρ2, this, Nat.zero_add]
    exact hI.agree b hb
  · intro i blk d hi hd hr hs
    obtain ⟨x, h1, h3, h4⟩ := live_of i blk hi
    rw [h4] at hd
    exact hI.fresh x _ d h3 hd hr (sold _ _ hs)
  · refine (VRs.ren tied _ _ hok.1).1 ?_
    rw [← show adapts (renL σ' h2.length 0 t2) t = renL σ' h2.length 0 t2 from hslots]
    exact VRs.adapt _ _ hV
def MarksL (Γ : Ctx) : List Deferred → World → Prop
  | [], _ => True
  | d :: ds, w => (∃ D, d = { target := .collected D, args := #[] } ∧ (Γ.w0.heap.size ≤ D ∧ Γ.ρ0.base.heap.size ≤ D) ∧ w.heap[D]? = some (.deferred (some [])) ∧ ∀ d' ∈ ds, d' ≠ d) ∧ MarksL Γ ds w
def Quiet (w w' : World) : Prop := ∀ (k : Nat) (o : Obj), w.heap[k]? = some o → (∀ cs e q, o ≠ .cells cs e q) → w'.heap[k]? = some o
theorem MarksL.mono {Γ : Ctx} {w w' : World} (hq : Quiet w w') : ∀ (ds : List Deferred), MarksL Γ ds w → MarksL Γ ds w'
  | [], _ => trivial
  | d :: ds, h => by
    obtain ⟨⟨D, h1, h2, h3, h4⟩, h5⟩ := h
    exact ⟨⟨D, h1, h2, hq D _ h3 (by simp), h4⟩, MarksL.mono hq ds h5⟩
def FrOK (fr : Option Nat) (w : World) : Prop := ∀ l, fr = some l → ∃ r, w.heap[l]? = some (.loop r)
def Marks (Γ : Ctx) (fr : Option Nat) (ds : List Deferred) (w : World) : Prop := FrOK fr w ∧ (∀ l, fr = some l → ds = []) ∧ MarksL Γ ds w
theorem Marks.mono {Γ : Ctx} {fr : Option Nat} {w w' : World} (hq : Quiet w w') {ds : List Deferred} (h : Marks Γ fr ds w) : Marks Γ fr ds w' :=
  ⟨fun l hl => by obtain ⟨r, hr⟩ := h.1 l hl; exact ⟨r, hq l _ hr (by simp)⟩, h.2.1, MarksL.mono hq _ h.2.2⟩
theorem Inv.here {Γ : Ctx} {ρ : Ren} {h : Heap} {w : World} (hI : Inv Γ ρ h w) : Inv ⟨h.length, ρ, h, w⟩ ρ h w := by
  refine ⟨hI.sim, fun _ _ => rfl, rfl, rfl, rfl, rfl, Nat.le_refl _, fun _ _ _ => rfl, fun b blk d hb hd hrw hs => ?_⟩
  refine .inr ⟨b, blk, d, ?_, hb, hrw, hd, hs, rfl⟩
  rcases Nat.lt_or_ge b h.length with h' | h'
  · exact h'
  · simp [Heap.get, List.getD_eq_getElem?_getD, List.getElem?_eq_none h'] at hb
theorem Inv.owned_up {Γ : Ctx} {ρ : Ren} {h : Heap} {w : World} (hI : Inv Γ ρ h w) {i : Nat} (ho : Ctx.owned ⟨h.length, ρ, h, w⟩ i) : Γ.w0.heap.size ≤ i ∨ Γ.owned i := by
  obtain ⟨b, blk, c, h1, h2, h3, h4, h5, h6⟩ := ho
  rw [← h6]; exact hI.fresh b blk c h2 h4 h3 h5
theorem Inv.trans {Γ : Ctx} {ρ ρ2 : Ren} {h h2 : Heap} {w w2 : World} (hI : Inv Γ ρ h w) (hn : Γ.n0 ≤ h.length) (hJ : Inv ⟨h.length, ρ, h, w⟩ ρ2 h2 w2) : Inv Γ ρ2 h2 w2 := by
  refine ⟨hJ.sim, fun b hb => (hJ.agree b (Nat.lt_of_lt_of_le hb hn)).trans (hI.agree b hb), hJ.sameBase.trans hI.sameBase, hJ.os.trans hI.os, hJ.tape.trans hI.tape, hJ.output.trans hI.output, Nat.le_trans hI.size hJ.size, fun i hi hno => ?_, fun b blk c hb hc hr hs => ?_⟩
  · rw [hJ.keep i (Nat.lt_of_lt_of_le hi hI.size) fun ho => ?_]
    · exact hI.keep i hi hno
    · rcases hI.owned_up ho with h1 | h1
      · omega
      · exact hno h1
  · rcases hJ.fresh b blk c hb hc hr hs with h1 | h1
    · exact .inl (Nat.le_trans hI.size h1)
    · exact hI.owned_up h1
theorem Sim.not_owned {ρ : Ren} {h : Heap} {w : World} (hS : Sim ρ h w) {n : Nat} {k : Nat} {o : Obj} (hk : w.heap[k]? = some o) (ho : ∀ cs e q, o ≠ .cells cs e q) : ¬ Ctx.owned ⟨n, ρ, h, w⟩ k := by
  rintro ⟨b, blk, c, h1, h2, h3, h4, h5, h6⟩
  obtain ⟨_, cs, e, h8, _⟩ := hS.own b blk c h2 h4 h3 h5
  rw [h6, hk] at h8
  injection h8 with h8
  exact ho _ _ _ h8
theorem Inv.quiet {n : Nat} {ρ ρ2 : Ren} {h h2 : Heap} {w w2 : World} (hS : Sim ρ h w) (hJ : Inv ⟨n, ρ, h, w⟩ ρ2 h2 w2) : Quiet w w2 := fun k o hk ho => by
  have hlt : k < w.heap.size := (Array.getElem?_eq_some_iff.1 hk).1
  rw [hJ.keep k hlt (hS.not_owned hk ho)]; exact hk
def PostIs (Γ : Ctx) (fr : Option Nat) (e : Exit) (t : List AV) (h : Heap) : Exit → Act → World → Prop :=
  fun e2 a2 w2 => e2 = e ∧ ∃ ρ2, Inv Γ ρ2 h w2 ∧ VRs ρ2 t a2.tmps.toList ∧ Marks Γ fr a2.defers w2
def Runs (P : Program) (Y : Ctx → Prop) (n0 : Nat) (c : Code) (t : List AV) (h : Heap) (e : Exit) (t' : List AV) (h' : Heap) : Prop :=
  n0 ≤ h'.length ∧ ∀ Γ, Γ.n0 = n0 → Y Γ → ∀ (fr : Option Nat) ρ w (a : Act), Inv Γ ρ h w → VRs ρ t a.tmps.toList → Marks Γ fr a.defers w → c.wpIn (frF fr) 0 P (PostIs Γ fr e t' h') a w
def Rounds (P : Program) (Y : Ctx → Prop) (n0 n : Nat) (c : Code) (t : List AV) (h : Heap) (e : Exit) (t' : List AV) (h' : Heap) : Prop :=
  n0 ≤ h'.length ∧ ∀ Γ, Γ.n0 = n0 → Y Γ → ∀ (fr : Option Nat) ρ w (a : Act), Inv Γ ρ h w → VRs ρ t a.tmps.toList → Marks Γ fr a.defers w → Code.roundsIn (frF fr) 0 P c (PostIs Γ fr e t' h') n a w
theorem Runs.of_rounds {P : Program} {Y : Ctx → Prop} {n0 n : Nat} {c : Code} {t : List AV} {h : Heap} {e : Exit} {t' : List AV} {h' : Heap} (hr : Rounds P Y n0 n c t h e t' h') : Runs P Y n0 (.loop c) t h e t' h' :=
  ⟨hr.1, fun Γ hΓ hY fr ρ w a hI hV hd => wpIn_loop_rounds n (hr.2 Γ hΓ hY fr ρ w a hI hV hd)⟩
theorem Runs.weak {P : Program} {Y : Ctx → Prop} {n0 : Nat} {c : Code} {t : List AV} {h : Heap} {e : Exit} {t1 t' : List AV} {h1 h' : Heap} (hr : Runs P Y n0 c t h e t1 h1) {σ : List Nat} {l : List Ob} (hw : weakObs n0 σ t1 t' h1 h' = some l) (hob : ∀ p ∈ l, p.holds) (hn : n0 ≤ h'.length) : Runs P Y n0 c t h e t' h' := by
  refine ⟨hn, fun Γ hΓ hY fr ρ w a hI hV hd => wpIn_mono (hr.2 Γ hΓ hY fr ρ w a hI hV hd) fun e2 a2 w2 hp => ?_⟩
  obtain ⟨h1, ρ2, h2, h3, h4⟩ := hp
  obtain ⟨_, ρ3, h5, h6⟩ := weak_ok hw hob hΓ h2 h3
  exact ⟨h1, ρ3, h5, h6, h4⟩
theorem Rounds.step {P : Program} {Y : Ctx → Prop} {n0 n : Nat} {c : Code} {t : List AV} {h : Heap} {e : Exit} {t1 t2 t' : List AV} {h1 h2 h' : Heap} (hr : Runs P Y n0 c t h .normal t1 h1) {σ : List Nat} {l : List Ob} (hw : weakObs n0 σ t1 t2 h1 h2 = some l) (hob : ∀ p ∈ l, p.holds) (hrest : Rounds P Y n0 n c t2 h2 e t' h') : Rounds P Y n0 (n + 1) c t h e t' h' := by
  refine ⟨hrest.1, fun Γ hΓ hY fr ρ w a hI hV hd => ?_⟩
  refine wpIn_mono (hr.2 Γ hΓ hY fr ρ w a hI hV hd) fun e2 a2 w2 hp => ?_
  obtain ⟨rfl, ρ2, g2, g3, g4⟩ := hp
  obtain ⟨_, ρ3, g5, g6⟩ := weak_ok hw hob hΓ g2 g3
  exact hrest.2 Γ hΓ hY fr ρ3 w2 a2 g5 g6 g4
theorem Rounds.leave {P : Program} {Y : Ctx → Prop} {n0 n : Nat} {c : Code} {t : List AV} {h : Heap} {e : Exit} {t' : List AV} {h' : Heap} (hr : Runs P Y n0 c t h e t' h') (he : e ≠ .normal) : Rounds P Y n0 (n + 1) c t h e t' h' := by
  refine ⟨hr.1, fun Γ hΓ hY fr ρ w a hI hV hd => ?_⟩
  refine wpIn_mono (hr.2 Γ hΓ hY fr ρ w a hI hV hd) fun e2 a2 w2 hp => ?_
  obtain ⟨rfl, hp⟩ := hp
  cases e2 with
  | normal => exact absurd rfl he
  | _ => exact ⟨rfl, hp⟩
theorem Rounds.of_runs {P : Program} {Y : Ctx → Prop} {n0 n : Nat} {c : Code} {t : List AV} {h : Heap} {e : Exit} {t1 t' : List AV} {h1 h' : Heap} (hr : Runs P Y n0 c t h .normal t1 h1) (hrest : Rounds P Y n0 n c t1 h1 e t' h') : Rounds P Y n0 (n + 1) c t h e t' h' := by
  refine ⟨hrest.1, fun Γ hΓ hY fr ρ w a hI hV hd => ?_⟩
  refine wpIn_mono (hr.2 Γ hΓ hY fr ρ w a hI hV hd) fun e2 a2 w2 hp => ?_
  obtain ⟨rfl, ρ2, g2, g3, g4⟩ := hp
  exact hrest.2 Γ hΓ hY fr ρ2 w2 a2 g2 g3 g4
def wantedK {β : Type} (ops : Array Oper) (o : Oper) (t : List AV) (K : Bool → List AV → Option β) : Option β :=
  match o.guard with
  | none => K true t
  | some (j, want) => match (ops[j]?).bind (·.dst) with
    | none => K false t
    | some d => match t.getD d (.val undef) with
      | .val (.bool b) => bif b then K (true == want) (t.set d (.val (.bool true))) else K (false == want) (t.set d (.val (.bool false)))
      | .val (.tuple _) => K false t
      | _ => none
theorem set_self {t : List AV} {d : Nat} {v : AV} (h : t.getD d (.val undef) = v) : t.set d v = t := by
  apply List.ext_getElem?
  intro i
  rw [List.getElem?_set]
  split
  · rename_i hi
    subst hi
    split
    · rename_i hlt
      rw [List.getElem?_eq_getElem hlt]
      rw [List.getD_eq_getElem?_getD, List.getElem?_eq_getElem hlt] at h
      simp at h; rw [h]
    · rename_i hlt
      rw [List.getElem?_eq_none (by omega)]
  · rfl
theorem wantedK_some {β : Type} {ops : Array Oper} {o : Oper} {t : List AV} {K : Bool → List AV → Option β} {r : β} (h : wantedK ops o t K = some r) : ∃ b, wantedA ops o t = some b ∧ K b t = some r := by
  unfold wantedK at h
  unfold wantedA
  split at h
  · rename_i hg; simp only [hg]; exact ⟨true, rfl, h⟩
  · rename_i j want hg
    simp only [hg]
    split at h
    · rename_i hd; simp only [hd]; exact ⟨false, rfl, h⟩
    · rename_i d hd
      simp only [hd]
      split at h
      · rename_i b hb
        simp only [hb]
        refine ⟨_, rfl, ?_⟩
        cases b with
        | true =>
          simp only [cond_true] at h
          rw [set_self hb] at h; exact h
        | false =>
          simp only [cond_false] at h
          rw [set_self hb] at h; exact h
      · rename_i x hb; simp only [hb]; exact ⟨false, rfl, h⟩
      · cases h
def deferB : Op → Bool
  | .defer _ => true
  | _ => false
def stepK {β : Type} (P : Program) (env : Env P) (ops : Array Oper) (o : Oper) (t : List AV) (h : Heap) (K : List AV → Did → Option β) : Option β :=
  wantedK ops o t fun wt t => match wt with
    | false => K t ⟨guardSlot ops o, [], o.dst, .val undef, [], h.length, 0⟩
    | true => if deferB o.op = true then none else opK P env o (evalE t) h.get h.length fun e => K t ⟨guardSlot ops o ++ tmpsOf o.op.operands.toList, e.rb, o.dst, e.val, e.wb, h.length, e.nw⟩
theorem stepK_ok {β : Type} {P : Program} {env : Env P} {ops : Array Oper} {i : Nat} {o : Oper} (hi : ops[i]? = some o) {t : List AV} {h : Heap} {K : List AV → Did → Option β} {r : β} (hs : stepK P env ops o t h K = some r) : ∃ d, K t d = some r ∧ Good P env.Y ops i t h d := by
  unfold stepK at hs
  obtain ⟨b, hw, hs⟩ := wantedK_some hs
  have hwant : ∀ t', (∀ s ∈ guardSlot ops o, t'.getD s (.val undef) = t.getD s (.val undef)) → wantedA ops o t' = some b := by
    intro t' hg
    unfold wantedA at hw ⊢
    unfold guardSlot at hg
    cases hgd : o.guard with
    | none => simpa [hgd] using hw
    | some jw =>
      obtain ⟨j, want⟩ := jw
      simp only [hgd] at hw hg ⊢
      cases hdd : (ops[j]?).bind (·.dst) with
      | none => simpa [hdd] using hw
      | some d =>
        simp only [hdd] at hw hg ⊢
        rw [hg d (by simp)]; exact hw
  cases b with
  | false =>
    refine ⟨_, hs, rfl, fun Γ hY t' h' ha hn ρ w a hI hV ds hd fr Q K hK => ?_⟩
    unfold wpOpIn
    simp only [hi]
    have := yielded_of hV (hwant t' fun s hs => ha.slots s hs)
    simp only [this, Bool.false_eq_true, if_false]
    refine ⟨fun _ _ => trivial, hK ρ w _ hI (putT_VRs hV o.dst (by simp [VR])) ?_⟩
    cases o.dst <;> simpa [Act.put] using hd
  | true =>
    simp only at hs
    split at hs
    · cases hs
    rename_i hdef
    obtain ⟨e, hk, hok⟩ := opK_ok hs
    refine ⟨_, hk, rfl, fun Γ hY t' h' ha hn ρ w a hI hV ds hd fr Q K hK => ?_⟩
    unfold wpOpIn
    simp only [hi]
    have := yielded_of hV (hwant t' fun s hs => ha.slots s (List.mem_append.2 (.inl hs)))
    simp only [this, if_true]
    refine hok Γ hY ρ h' w a hI (fun x hx => ?_) (fun b hb => ha.blocks b hb) hn (fun x h1 h2 => ha.free x h1 h2) (fun c hc => hdef (by simp [deferB, hc])) fr K Q fun ρ' w' cv h1 h2 h3 => ?_
    · rw [← evalE_agree ha (x := x) fun s hs => by subst hs; exact List.mem_append.2 (.inr (mem_tmpsOf (by simpa using hx)))]
      exact VR_evalE hV x
    · refine hK ρ' w' _ h3 (putT_VRs (VRs.mono h1 _ _ hV) o.dst h2) ?_
      cases o.dst <;> simpa [Act.put] using hd
def forceEnt {β : Type} (e : Ent) (k : Ent → β) : β := match e with
  | .free => k .free
  | .dead => k .dead
  | .live ⟨c, r, g⟩ => match c, r with
    | .lit l, true => k (.live ⟨.lit l, true, g⟩)
    | .lit l, false => k (.live ⟨.lit l, false, g⟩)
    | .arr s l, true => k (.live ⟨.arr s l, true, g⟩)
    | .arr s l, false => k (.live ⟨.arr s l, false, g⟩)
    | c, true => k (.live ⟨c, true, g⟩)
    | c, false => k (.live ⟨c, false, g⟩)
theorem forceEnt_eq {β : Type} (e : Ent) (k : Ent → β) : forceEnt e k = k e := by
  unfold forceEnt
  split
  · rfl
  · rfl
  · split <;> rfl
def forceEs {β : Type} : List Ent → (List Ent → β) → β
  | [], k => k []
  | e :: l, k => forceEnt e fun e => forceEs l fun l => k (e :: l)
theorem forceEs_eq {β : Type} : ∀ (l : List Ent) (k : List Ent → β), forceEs l k = k l
  | [], _ => rfl
  | e :: l, k => by rw [forceEs, forceEnt_eq, forceEs_eq l]
def forceH {β : Type} (wb : List (Nat × Ent)) (h : Heap) (k : Heap → β) : β := match wb with
  | [] => k h
  | _ => forceEs h k
theorem forceH_eq {β : Type} (wb : List (Nat × Ent)) (h : Heap) (k : Heap → β) : forceH wb h k = k h := by
  unfold forceH
  split
  · rfl
  · exact forceEs_eq _ _
def setK {β : Type} : List AV → Nat → AV → (List AV → β) → β
  | [], _, _, k => k []
  | _ :: l, 0, v, k => k (v :: l)
  | a :: l, n + 1, v, k => setK l n v fun l => k (a :: l)
theorem setK_eq {β : Type} : ∀ (l : List AV) (n : Nat) (v : AV) (k : List AV → β), setK l n v k = k (l.set n v)
  | [], n, v, k => rfl
  | a :: l, 0, v, k => rfl
  | a :: l, n + 1, v, k => by rw [setK, setK_eq l n]; rfl
def putK {β : Type} (d : Option Nat) (v : AV) (t : List AV) (k : List AV → β) : β := match d with
  | some s => setK t s v k
  | none => k t
theorem putK_eq {β : Type} (d : Did) (t : List AV) (k : List AV → β) : putK d.ws d.val t k = k (d.t t) := by
  unfold putK Did.t putT
  cases d.ws with
  | none => rfl
  | some s => exact setK_eq _ _ _ _
def opsK {β : Type} (P : Program) (env : Env P) (ops : Array Oper) : List Oper → List AV → Heap → List Did → (List Did → List AV → Heap → Option β) → Option β
  | [], t, h, acc, K => K acc.reverse t h
  | o :: rest, t, h, acc, K => stepK P env ops o t h fun t d => forceH d.wb (d.h h) fun h => putK d.ws d.val t fun t => opsK P env ops rest t h (d :: acc) K
theorem opsK_ok {β : Type} {P : Program} {env : Env P} {ops : Array Oper} {K : List Did → List AV → Heap → Option β} {r : β} : ∀ (l : List Oper) (k : Nat) (t : List AV) (h : Heap) (acc : List Did), (∀ i o, l[i]? = some o → ops[k + i]? = some o) → opsK P env ops l t h acc K = some r →
    ∃ dids, dids.length = l.length ∧ GoodAll P env.Y ops k t h dids ∧ K (acc.reverse ++ dids) (endT t dids) (endH h dids) = some r
  | [], k, t, h, acc, _, hs => ⟨[], rfl, trivial, by simpa [opsK, endT, endH] using hs⟩
  | o :: rest, k, t, h, acc, hl, hs => by
    simp only [opsK, forceH_eq, putK_eq] at hs
    obtain ⟨d, hk, hg⟩ := stepK_ok (i := k) (by simpa using hl 0 o rfl) hs
    obtain ⟨dids, h1, h2, h3⟩ := opsK_ok rest (k + 1) _ _ _ (fun i o' hi => by have := hl (i + 1) o' (by simpa using hi); rw [show k + 1 + i = k + (i + 1) by omega]; exact this) hk
    exact ⟨d :: dids, by simp [h1], ⟨hg, h2⟩, by simpa [endT, endH] using h3⟩
def regK {β : Type} (P : Program) (env : Env P) (ops : Array Oper) (draw : Bool) (t : List AV) (h : Heap) (K : List AV → Heap → Option β) : Option β :=
  opsK P env ops ops.toList t h [] fun dids t' h' => match draw with
    | false => K t' h'
    | true => match masks ops.toList [] with
      | none => none
      | some ms => ifK (confs dids ms) (K t' h')
theorem regK_ok {β : Type} {P : Program} (hm : P.follows .mixedOrders = true) {env : Env P} {id : Nat} {ops : Array Oper} {draw : Bool} {t : List AV} {h : Heap} {K : List AV → Heap → Option β} {r : β} {n0 : Nat} (hn : n0 ≤ h.length) (hs : regK P env ops draw t h K = some r) :
    ∃ t' h', K t' h' = some r ∧ Runs P env.Y n0 (.region id ops draw) t h .normal t' h' := by
  unfold regK at hs
  obtain ⟨dids, h1, h2, h3⟩ := opsK_ok ops.toList 0 t h [] (fun i o hi => by simpa using hi) hs
  have hlen : dids.length = ops.size := by simpa using h1
  simp only [List.reverse_nil, List.nil_append] at h3
  have key : (draw = true → ∃ ms, masks ops.toList [] = some ms ∧ confs dids ms = true) → Runs P env.Y n0 (.region id ops draw) t h .normal (endT t dids) (endH h dids) := fun hdr =>
    ⟨Nat.le_trans hn (endH_length _ _), fun Γ hΓ hY fr ρ w a hI hV hd => region_ok hm (Γ := ⟨h.length, ρ, h, w⟩) (env.stable Γ ρ h w hY hI (by omega)) hlen h2 hdr (Nat.le_refl _) hI.here hV rfl fun ρ' w' a' g1 g2 g3 => ⟨rfl, ρ', hI.trans (by omega) g1, g2, by rw [g3]; exact Marks.mono (Inv.quiet hI.sim g1) hd⟩⟩
  cases draw with
  | false => exact ⟨_, _, h3, key (by simp)⟩
  | true =>
    simp only at h3
    split at h3
    · cases h3
    · rename_i ms hms
      obtain ⟨hc, hK⟩ := ifK_some h3
      exact ⟨_, _, hK, key fun _ => ⟨ms, hms, hc⟩⟩
structure LSumm (P : Program) (Y : Ctx → Prop := fun _ => True) where
  c : Code
  S : {β : Type} → Nat → List AV → Heap → (Exit → List AV → Heap → Option β) → Option β
  ok : ∀ {β : Type} (n0 : Nat) (t : List AV) (h : Heap) (K : Exit → List AV → Heap → Option β) (r : β), n0 ≤ h.length → S n0 t h K = some r → ∃ e t' h', K e t' h' = some r ∧ Runs P Y n0 c t h e t' h'
abbrev Loops (P : Program) (Y : Ctx → Prop := fun _ => True) := List (List Nat × LSumm P Y)
def Loops.find {P : Program} {Y : Ctx → Prop} : Loops P Y → List Nat → Option (LSumm P Y)
  | [], _ => none
  | s :: l, p => if s.1 = p then some s.2 else Loops.find l p
def kid : Code → Nat → Option Code
  | .seq a _, 0 => some a
  | .seq _ b, 1 => some b
  | .cond _ x _, 0 => some x
  | .cond _ _ y, 1 => some y
  | .block _ b, 0 => some b
  | .loop b, 0 => some b
  | .scope b, 0 => some b
  | _, _ => none
def subAt (C : Code) : List Nat → Option Code
  | [] => some C
  | i :: p => (subAt C p).bind fun c => kid c i
def Loops.fit {P : Program} {Y : Ctx → Prop} (C : Code) (L : Loops P Y) : Prop := ∀ s ∈ L, subAt C s.1 = some s.2.c
theorem Loops.find_ok {P : Program} {Y : Ctx → Prop} {C : Code} : ∀ (L : Loops P Y) (p : List Nat) (s : LSumm P Y), L.fit C → L.find p = some s → subAt C p = some s.c
  | [], p, s, _, h => by simp [Loops.find] at h
  | x :: l, p, s, hf, h => by
    simp only [Loops.find] at h
    split at h
    · rename_i hp; injection h with h; subst h; subst hp; exact hf x (List.mem_cons_self ..)
    · exact Loops.find_ok l p s (fun y hy => hf y (List.mem_cons_of_mem _ hy)) h
def blockExit (id : Nat) : Exit → Exit
  | .exit i => if i = id then .normal else .exit i
  | e => e
inductive Todo where
  | code (c : Code)
  | rounds (c : Code)
  | jumps (c x : Code)
def quietD (dids : List Did) : Bool := dids.all fun d => d.wb.isEmpty
def slotsD : List Did → List Nat
  | [] => []
  | d :: l => match d.ws with
    | some s => s :: slotsD l
    | none => slotsD l
theorem endH_quiet : ∀ (dids : List Did) (h : Heap), quietD dids = true → endH h dids = h
  | [], h, _ => rfl
  | d :: l, h, hq => by
    simp only [quietD, List.all_cons, Bool.and_eq_true] at hq
    have : d.wb = [] := by simpa using hq.1
    simp only [endH, Did.h, this, Heap.upds]
    exact endH_quiet l h hq.2
theorem endT_same : ∀ (dids : List Did) (t : List AV) (i : Nat), i ∉ slotsD dids → (endT t dids)[i]? = t[i]?
  | [], t, i, _ => rfl
  | d :: l, t, i, hi => by
    simp only [endT]
    unfold slotsD at hi
    split at hi
    · rename_i s hs
      simp only [List.mem_cons, not_or] at hi
      rw [endT_same l _ i hi.2]
      simp only [Did.t, putT, hs]
      rw [List.getElem?_set_ne (fun e => hi.1 e.symm)]
    · rename_i hs
      rw [endT_same l _ i hi]
      simp only [Did.t, putT, hs]
theorem endT_len : ∀ (dids : List Did) (t : List AV), (endT t dids).length = t.length
  | [], t => rfl
  | d :: l, t => by
    simp only [endT]
    rw [endT_len l]
    unfold Did.t putT
    split <;> simp
def pureC {P : Program} (env : Env P) (h : Heap) : Code → List AV → Option (List AV × List Nat)
  | .skip, t => some (t, [])
  | .region _ ops false, t => opsK P env ops ops.toList t h [] fun dids t' _ => match quietD dids with
    | true => some (t', slotsD dids)
    | false => none
  | .seq a b, t => match pureC env h a t with
    | some (t1, s1) => (match pureC env h b t1 with
      | some (t2, s2) => some (t2, s1 ++ s2)
      | none => none)
    | none => none
  | _, _ => none
theorem pureC_ok {P : Program} (hm : P.follows .mixedOrders = true) {env : Env P} {n0 : Nat} {h : Heap} (hn : n0 ≤ h.length) : ∀ (x : Code) (t t1 : List AV) (s : List Nat), pureC env h x t = some (t1, s) → Runs P env.Y n0 x t h .normal t1 h ∧ (∀ i, i ∉ s → t1[i]? = t[i]?) ∧ t1.length = t.length
  | .skip, t, t1, s, hp => by
    simp only [pureC] at hp
    injection hp with hp; injection hp with h1 h2; subst h1; subst h2
    exact ⟨⟨hn, fun Γ hΓ hY fr ρ w a hI hV hd => wpIn_skip ⟨rfl, ρ, hI, hV, hd⟩⟩, fun _ _ => rfl, rfl⟩
  | .region id ops draw, t, t1, s, hp => by
    cases draw with
    | true => simp [pureC] at hp
    | false =>
      simp only [pureC] at hp
      obtain ⟨dids, h1, h2, h3⟩ := opsK_ok ops.toList 0 t h [] (fun i o hi => by simpa using hi) hp
      have hlen : dids.length = ops.size := by simpa using h1
      simp only [List.reverse_nil, List.nil_append] at h3
      split at h3
      case h_2 => cases h3
      rename_i hq
      injection h3 with h3; injection h3 with e1 e2; subst e1; subst e2
      have hh := endH_quiet dids h hq
      refine ⟨⟨hn, fun Γ hΓ hY fr ρ w a hI hV hd => ?_⟩, endT_same dids t, endT_len dids t⟩
      exact region_ok hm (Γ := ⟨h.length, ρ, h, w⟩) (env.stable Γ ρ h w hY hI (by omega)) hlen h2 (by simp) (Nat.le_refl _) hI.here hV rfl fun ρ' w' a' g1 g2 g3 => by
        rw [hh] at g1
        exact ⟨rfl, ρ', hI.trans (by omega) g1, g2, by rw [g3]; exact Marks.mono (Inv.quiet hI.sim g1) hd⟩
  | .seq a b, t, t1, s, hp => by
    simp only [pureC] at hp
    split at hp
    case h_2 => cases hp
    rename_i ta sa ha
    split at hp
    case h_2 => cases hp
    rename_i tb sb hb
    injection hp with hp; injection hp with e1 e2; subst e1; subst e2
    obtain ⟨ra, ka, la⟩ := pureC_ok hm hn a t ta sa ha
    obtain ⟨rb, kb, lb⟩ := pureC_ok hm hn b ta tb sb hb
    refine ⟨⟨hn, fun Γ hΓ hY fr ρ w act hI hV hd => wpIn_seq (wpIn_mono (ra.2 Γ hΓ hY fr ρ w act hI hV hd) fun e3 a3 w3 hp => ?_)⟩, fun i hi => ?_, lb.trans la⟩
    · obtain ⟨rfl, ρ3, g1, g2, g3⟩ := hp
      exact rb.2 Γ hΓ hY fr ρ3 w3 a3 g1 g2 g3
    · simp only [List.mem_append, not_or] at hi
      rw [kb i hi.2, ka i hi.1]
  | .cond .., _, _, _, hp => by simp [pureC] at hp
  | .block .., _, _, _, hp => by simp [pureC] at hp
  | .loop .., _, _, _, hp => by simp [pureC] at hp
  | .rangeFunc .., _, _, _, hp => by simp [pureC] at hp
  | .exit .., _, _, _, hp => by simp [pureC] at hp
  | .scope .., _, _, _, hp => by simp [pureC] at hp
  | .label .., _, _, _, hp => by simp [pureC] at hp
  | .goto .., _, _, _, hp => by simp [pureC] at hp
  | .ret, _, _, _, hp => by simp [pureC] at hp
  | .refuse .., _, _, _, hp => by simp [pureC] at hp
def mergeA (v : Bool) : AV → AV → AV
  | .val (.int k a), .val (.int k' b) => if k = k' then .val (.int k (bif v then a else b)) else .any
  | .val (.bool a), .val (.bool b) => .val (.bool (bif v then a else b))
  | _, _ => .any
theorem mergeA_ok {ρ : Ren} (v : Bool) (a b : AV) (cv : Value) (h : VR ρ (bif v then a else b) cv) : VR ρ (mergeA v a b) cv := by
  unfold mergeA
  split
  · split
    · rename_i hk
      subst hk
      cases v <;> simpa [VR] using h
    · simp [VR]
  · cases v <;> simpa [VR] using h
  · simp [VR]
def mergeT (v : Bool) (t1 t2 : List AV) : List Nat → List AV → List AV
  | [], t => t
  | s :: l, t => mergeT v t1 t2 l (t.set s (mergeA v (t1.getD s (.val undef)) (t2.getD s (.val undef))))
theorem mergeT_ok {ρ : Ren} {v : Bool} {t1 t2 : List AV} {cs : List Value} (hV : VRs ρ (bif v then t1 else t2) cs) : ∀ (l : List Nat) (t : List AV), t.length = cs.length → (∀ i a, i ∉ l → t[i]? = some a → ∃ cv, cs[i]? = some cv ∧ VR ρ a cv) → VRs ρ (mergeT v t1 t2 l t) cs
  | [], t, hl, h => VRs.of_get hl fun i a hi => h i a (by simp) hi
  | s :: l, t, hl, h => by
    simp only [mergeT]
    refine mergeT_ok hV l _ (by simpa using hl) fun i a hi ha => ?_
    rw [List.getElem?_set] at ha
    split at ha
    · rename_i he
      subst he
      split at ha
      case isFalse => cases ha
      rename_i hlt
      injection ha with ha; subst ha
      have hlt' : s < (bif v then t1 else t2).length := by rw [hV.length, ← hl]; exact hlt
      obtain ⟨cv, k1, k2⟩ := hV.get s _ (List.getElem?_eq_getElem hlt')
      refine ⟨cv, k1, mergeA_ok v _ _ cv ?_⟩
      cases v with
      | true =>
        simp only [cond_true] at k2 hlt' ⊢
        rw [List.getD_eq_getElem?_getD, List.getElem?_eq_getElem hlt']; exact k2
      | false =>
        simp only [cond_false] at k2 hlt' ⊢
        rw [List.getD_eq_getElem?_getD (l := t2), List.getElem?_eq_getElem hlt']; exact k2
    · rename_i hne
      exact h i a (by simp only [List.mem_cons, not_or]; exact ⟨fun e => hne e.symm, hi⟩) ha
def Env.joins {P : Program} (env : Env P) : Bool := env.l.any fun s => s.f == 1000001
def joinK {β : Type} (j : Bool) (m1 m2 : Option (List AV × List Nat)) (v : Bool) (t : List AV) (K : List AV → Option β) (F : Option β) : Option β := match j with
  | false => F
  | true => match m1, m2 with
    | some (t1, s1), some (t2, s2) => K (mergeT v t1 t2 (s1 ++ s2) t)
    | _, _ => F
theorem joinK_some {β : Type} {j : Bool} {m1 m2 : Option (List AV × List Nat)} {v : Bool} {t : List AV} {K : List AV → Option β} {F : Option β} {r : β} (h : joinK j m1 m2 v t K F = some r) : F = some r ∨ ∃ t1 s1 t2 s2, m1 = some (t1, s1) ∧ m2 = some (t2, s2) ∧ K (mergeT v t1 t2 (s1 ++ s2) t) = some r := by
  unfold joinK at h
  split at h
  · exact .inl h
  · split at h
    · exact .inr ⟨_, _, _, _, rfl, rfl, h⟩
    · exact .inl h
def codeK {β : Type} (P : Program) (env : Env P) (n0 : Nat) : Nat → Loops P env.Y → List Nat → Todo → List AV → Heap → (Exit → List AV → Heap → Option β) → Option β
  | 0, _, _, _, _, _, _ => none
  | f + 1, L, p, .code .skip, t, h, K => K .normal t h
  | f + 1, L, p, .code (.label _), t, h, K => K .normal t h
  | f + 1, L, p, .code (.exit id), t, h, K => K (.exit id) t h
  | f + 1, L, p, .code (.goto l), t, h, K => K (.goto l) t h
  | f + 1, L, p, .code .ret, t, h, K => K .ret t h
  | f + 1, L, p, .code (.region _ ops draw), t, h, K => regK P env ops draw t h fun t' h' => K .normal t' h'
  | f + 1, L, p, .code (.seq a b), t, h, K => codeK P env n0 f L (0 :: p) (.code a) t h fun e t' h' => match e with
    | .normal => codeK P env n0 f L (1 :: p) (.code b) t' h' K
    | e => K e t' h'
  | f + 1, L, p, .code (.cond c x y), t, h, K => match evalE t c with
    | .val (.bool v) => joinK env.joins (pureC env h x t) (pureC env h y t) v t (fun t' => K .normal t' h) (bif v then codeK P env n0 f L (0 :: p) (.code x) t h K else codeK P env n0 f L (1 :: p) (.code y) t h K)
    | _ => none
  | f + 1, L, p, .code (.block id b), t, h, K => codeK P env n0 f L (0 :: p) (.code b) t h fun e t' h' => K (blockExit id e) t' h'
  | f + 1, L, p, .code (.loop b), t, h, K => match L.find p with
    | some s => s.S n0 t h K
    | none => codeK P env n0 f L (0 :: p) (.rounds b) t h K
  | f + 1, L, p, .code (.rangeFunc ..), t, h, K => match L.find p with
    | some s => s.S n0 t h K
    | none => none
  | f + 1, L, p, .rounds b, t, h, K => codeK P env n0 f L p (.code b) t h fun e t' h' => match e with
    | .normal => codeK P env n0 f L p (.rounds b) t' h' K
    | e => K e t' h'
  | f + 1, L, p, .code (.scope b), t, h, K => codeK P env n0 f L (0 :: p) (.jumps b b) t h K
  | f + 1, L, p, .jumps b x, t, h, K => codeK P env n0 f L p (.code x) t h fun e t' h' => match e with
    | .goto l => (match findLabel b l with
      | some rest => codeK P env n0 f [] [] (.jumps b rest) t' h' K
      | none => K (.goto l) t' h')
    | e => K e t' h'
  | _, _, _, _, _, _, _ => none
def Code.hops (F : Fence) (m : Nat) (P : Program) (c : Code) (Q : Exit → Act → World → Prop) : Nat → Code → Act → World → Prop
  | 0, _, _, _ => False
  | n + 1, x, a, w => x.wpIn F m P (fun e a w => match e with
    | .goto l => (match findLabel c l with
      | some rest => Code.hops F m P c Q n rest a w
      | none => Q (.goto l) a w)
    | e => Q e a w) a w
theorem wpIn_scope_hops {F : Fence} {m : Nat} {P : Program} {Q : Exit → Act → World → Prop} {c : Code} (n : Nat) {a : Act} {w : World} (h : Code.hops F m P c Q n c a w) : (Code.scope c).wpIn F m P Q a w := by
  intro b k cs hro hb hr
  have s1 : ∀ {a w}, step P (lone (b.atR a (.code (.scope c) :: k)) cs w) = .next (lone (b.atR a (.code c :: .inScope c :: k)) cs w) := fun {a w} => step_lone_go (by simp [stepG, stepG.exec, Frame.atR])
  have s2 : ∀ {a w}, step P (lone (b.atR a (.inScope c :: k)) cs w) = .next (lone (b.atR a k) cs w) := fun {a w} => step_lone_go (by simp [stepG, stepG.exec, Frame.atR])
  have key : ∀ n x a w, Code.hops F m P c Q n x a w → ∃ e a' w', Q e a' w' ∧ ArrivesIn (Machine.fenced P F) P (lone (b.atR a (.code x :: .inScope c :: k)) cs w) b k cs e a' w' := by
    intro n
    induction n with
    | zero => intro x a w h; exact h.elim
    | succ n ih =>
      intro x a w h
      obtain ⟨e, a₁, w₁, hq, harr⟩ := h b (.inScope c :: k) cs hro hb hr
      cases e with
      | normal => exact ⟨.normal, a₁, w₁, hq, StepsIn.trans harr (.one (fenced_calm hb hr rfl) s2)⟩
      | exit id =>
        have hx : exitTo id (.inScope c :: k) = exitTo id k := by simp [exitTo]
        exact ⟨.exit id, a₁, w₁, hq, fun k' hk => harr.1 k' (by rw [hx]; exact hk), fun hr' hk => harr.2 hr' (by rw [hx]; exact hk)⟩
      | goto l =>
        simp only at hq
        split at hq
        · rename_i rest hrest
          obtain ⟨e₂, a₂, w₂, hq₂, harr₂⟩ := ih rest a₁ w₁ hq
          exact ⟨e₂, a₂, w₂, hq₂, .of_steps (harr.1 _ (by simp [gotoIn, hrest])) harr₂⟩
        · rename_i hrest
          have hx : gotoIn l (.inScope c :: k) = gotoIn l k := by simp [gotoIn, hrest]
          exact ⟨.goto l, a₁, w₁, hq, fun k' hk => harr.1 k' (by rw [hx]; exact hk), fun hr' hk => harr.2 hr' (by rw [hx]; exact hk)⟩
      | ret => exact ⟨_, a₁, w₁, hq, harr⟩
      | panic ch => exact ⟨_, a₁, w₁, hq, harr⟩
      | outgrown => exact ⟨_, a₁, w₁, hq, harr⟩
  obtain ⟨e, a₁, w₁, hq, harr⟩ := key n c a w h
  exact ⟨e, a₁, w₁, hq, .of_steps (.one (fenced_calm hb hr rfl) s1) harr⟩
def Hops (P : Program) (Y : Ctx → Prop) (n0 n : Nat) (c x : Code) (t : List AV) (h : Heap) (e : Exit) (t' : List AV) (h' : Heap) : Prop :=
  n0 ≤ h'.length ∧ ∀ Γ, Γ.n0 = n0 → Y Γ → ∀ (fr : Option Nat) ρ w (a : Act), Inv Γ ρ h w → VRs ρ t a.tmps.toList → Marks Γ fr a.defers w → Code.hops (frF fr) 0 P c (PostIs Γ fr e t' h') n x a w
def Todo.good (P : Program) (Y : Ctx → Prop) (n0 : Nat) : Todo → List AV → Heap → Exit → List AV → Heap → Prop
  | .code c, t, h, e, t', h' => Runs P Y n0 c t h e t' h'
  | .rounds c, t, h, e, t', h' => ∃ n, Rounds P Y n0 n c t h e t' h'
  | .jumps c x, t, h, e, t', h' => ∃ n, Hops P Y n0 n c x t h e t' h'
def Todo.at_ (C : Code) : Todo → List Nat → Prop
  | .code c, p => subAt C p = some c
  | .rounds c, p => subAt C p = some c
  | .jumps c x, p => subAt C p = some x
theorem codeK_ok {β : Type} {P : Program} (hm : P.follows .mixedOrders = true) {env : Env P} {n0 : Nat} {r : β} : ∀ (f : Nat) (L : Loops P env.Y) (p : List Nat) (td : Todo) (t : List AV) (h : Heap) (K : Exit → List AV → Heap → Option β) (C : Code), L.fit C → (L = [] ∨ td.at_ C p) → n0 ≤ h.length → codeK P env n0 f L p td t h K = some r →
    ∃ e t' h', K e t' h' = some r ∧ n0 ≤ h'.length ∧ td.good P env.Y n0 t h e t' h'
  | 0, L, p, td, t, h, K, C, _, _, hn, hr => by simp [codeK] at hr
  | f + 1, L, p, td, t, h, K, C, hL, hp, hn, hr => by
    have sub : ∀ i c c', (L = [] ∨ subAt C p = some c) → kid c i = some c' → (L = [] ∨ subAt C (i :: p) = some c') := by
      intro i c c' h1 h2
      rcases h1 with h1 | h1
      · exact .inl h1
      · exact .inr (by simp [subAt, h1, h2])
    cases td with
    | rounds b =>
      simp only [codeK] at hr
      obtain ⟨e, t1, h1, hk, hn1, hg⟩ := codeK_ok hm f L p (.code b) t h _ C hL hp hn hr
      cases e with
      | normal =>
        simp only at hk
        obtain ⟨e2, t2, h2, hk2, hn2, n, hg2⟩ := codeK_ok hm f L p (.rounds b) t1 h1 _ C hL hp hn1 hk
        exact ⟨e2, t2, h2, hk2, hn2, n + 1, Rounds.of_runs hg hg2⟩
      | _ => exact ⟨_, t1, h1, hk, hn1, 1, Rounds.leave hg (by simp)⟩
    | jumps b x =>
      simp only [codeK] at hr
      obtain ⟨e, t1, h1, hk, hn1, hg⟩ := codeK_ok hm f L p (.code x) t h _ C hL hp hn hr
      have leave : ∀ e', e = e' → (∀ l, e' = .goto l → findLabel b l = none) → Hops P env.Y n0 1 b x t h e t1 h1 := by
        intro e' he hl
        refine ⟨hn1, fun Γ hΓ hY fr ρ w a hI hV hd => ?_⟩
        refine wpIn_mono (hg.2 Γ hΓ hY fr ρ w a hI hV hd) fun e2 a2 w2 hp => ?_
        obtain ⟨h5, hp⟩ := hp
        subst h5
        cases he' : e2 with
        | goto l =>
          simp only [hl l (by rw [← he, he'])]
          exact ⟨rfl, hp⟩
        | _ => exact ⟨rfl, hp⟩
      cases e with
      | goto l =>
        simp only at hk
        split at hk
        · rename_i rest hrest
          obtain ⟨e2, t2, h2, hk2, hn2, n, hg2⟩ := codeK_ok hm f [] [] (.jumps b rest) t1 h1 _ C (by intro s hs; simp at hs) (.inl rfl) hn1 hk
          refine ⟨e2, t2, h2, hk2, hn2, n + 1, hn2, fun Γ hΓ hY fr ρ w a hI hV hd => ?_⟩
          refine wpIn_mono (hg.2 Γ hΓ hY fr ρ w a hI hV hd) fun e3 a3 w3 hp => ?_
          obtain ⟨rfl, ρ3, g1, g2, g3⟩ := hp
          simp only [hrest]
          exact hg2.2 Γ hΓ hY fr ρ3 w3 a3 g1 g2 g3
        · rename_i hrest
          exact ⟨_, t1, h1, hk, hn1, 1, leave _ rfl (fun l' hl => by injection hl with hl; subst hl; exact hrest)⟩
      | _ => exact ⟨_, t1, h1, hk, hn1, 1, leave _ rfl (by simp)⟩
    | code c =>
    cases c with
    | skip => simp only [codeK] at hr; exact ⟨_, t, h, hr, hn, hn, fun Γ hΓ hY fr ρ w a hI hV hd => wpIn_skip ⟨rfl, ρ, hI, hV, hd⟩⟩
    | label l => simp only [codeK] at hr; exact ⟨_, t, h, hr, hn, hn, fun Γ hΓ hY fr ρ w a hI hV hd => wpIn_label ⟨rfl, ρ, hI, hV, hd⟩⟩
    | exit id => simp only [codeK] at hr; exact ⟨_, t, h, hr, hn, hn, fun Γ hΓ hY fr ρ w a hI hV hd => wpIn_exit ⟨rfl, ρ, hI, hV, hd⟩⟩
    | goto l => simp only [codeK] at hr; exact ⟨_, t, h, hr, hn, hn, fun Γ hΓ hY fr ρ w a hI hV hd => wpIn_goto ⟨rfl, ρ, hI, hV, hd⟩⟩
    | ret => simp only [codeK] at hr; exact ⟨_, t, h, hr, hn, hn, fun Γ hΓ hY fr ρ w a hI hV hd => wpIn_ret ⟨rfl, ρ, hI, hV, hd⟩⟩
    | region id ops draw =>
      simp only [codeK] at hr
      obtain ⟨t1, h1, hk, hg⟩ := regK_ok (id := id) hm hn hr
      exact ⟨_, t1, h1, hk, hg.1, hg⟩
    | seq a b =>
      simp only [codeK] at hr
      obtain ⟨e, t1, h1, hk, hn1, hg⟩ := codeK_ok hm f L (0 :: p) (.code a) t h _ C hL (sub 0 _ _ hp rfl) hn hr
      have leave : e ≠ .normal → Runs P env.Y n0 (.seq a b) t h e t1 h1 := fun he =>
        ⟨hn1, fun Γ hΓ hY fr ρ w act hI hV hd => wpIn_seq (wpIn_mono (hg.2 Γ hΓ hY fr ρ w act hI hV hd) fun e2 a2 w2 hp => by
          obtain ⟨rfl, hp⟩ := hp
          cases e2 with
          | normal => exact absurd rfl he
          | _ => exact ⟨rfl, hp⟩)⟩
      cases e with
      | normal =>
        simp only at hk
        obtain ⟨e2, t2, h2, hk2, hn2, hg2⟩ := codeK_ok hm f L (1 :: p) (.code b) t1 h1 _ C hL (sub 1 _ _ hp rfl) hn1 hk
        refine ⟨e2, t2, h2, hk2, hn2, hn2, fun Γ hΓ hY fr ρ w act hI hV hd => wpIn_seq (wpIn_mono (hg.2 Γ hΓ hY fr ρ w act hI hV hd) fun e3 a3 w3 hp => ?_)⟩
        obtain ⟨rfl, ρ3, g1, g2, g3⟩ := hp
        exact hg2.2 Γ hΓ hY fr ρ3 w3 a3 g1 g2 g3
      | _ => exact ⟨_, t1, h1, hk, hn1, leave (by simp)⟩
    | cond c x y =>
      simp only [codeK] at hr
      split at hr
      case h_2 => cases hr
      rename_i v hc
      have hcv : ∀ {ρ : Ren} {act : Act}, VRs ρ t act.tmps.toList → act.eval c = .bool v := fun hV => by
        have := VR_evalE hV c
        rw [hc] at this; simpa [VR] using this
      rcases joinK_some hr with hr | ⟨tx, sx, ty, sy, hx, hy', hk⟩
      case inr =>
        obtain ⟨rx, kx, lx⟩ := pureC_ok hm hn x t tx sx hx
        obtain ⟨ry, ky, ly⟩ := pureC_ok hm hn y t ty sy hy'
        have fin : ∀ {Γ : Ctx} {fr : Option Nat} {e2 : Exit} {a2 : Act} {w2 : World}, PostIs Γ fr .normal (bif v then tx else ty) h e2 a2 w2 → PostIs Γ fr .normal (mergeT v tx ty (sx ++ sy) t) h e2 a2 w2 := fun hp => by
          obtain ⟨rfl, ρ3, g1, g2, g3⟩ := hp
          refine ⟨rfl, ρ3, g1, mergeT_ok g2 _ _ ?_ fun i a hi ha => ?_, g3⟩
          · rw [← g2.length]; cases v
            · exact ly.symm
            · exact lx.symm
          · simp only [List.mem_append, not_or] at hi
            refine g2.get i a ?_
            cases v
            · exact (ky i hi.2).trans ha
            · exact (kx i hi.1).trans ha
        refine ⟨_, _, _, hk, hn, hn, fun Γ hΓ hY fr ρ w act hI hV hd => ?_⟩
        cases v with
        | true => exact wpIn_cond_true (hcv hV) (wpIn_mono (rx.2 Γ hΓ hY fr ρ w act hI hV hd) fun e2 a2 w2 hp => fin hp)
        | false => exact wpIn_cond_false (hcv hV) (wpIn_mono (ry.2 Γ hΓ hY fr ρ w act hI hV hd) fun e2 a2 w2 hp => fin hp)
      cases v with
      | true =>
        obtain ⟨e, t1, h1, hk, hn1, hg⟩ := codeK_ok hm f L (0 :: p) (.code x) t h _ C hL (sub 0 _ _ hp rfl) hn hr
        refine ⟨e, t1, h1, hk, hn1, hn1, fun Γ hΓ hY fr ρ w act hI hV hd => wpIn_cond_true ?_ (hg.2 Γ hΓ hY fr ρ w act hI hV hd)⟩
        have := VR_evalE hV c
        rw [hc] at this; simpa [VR] using this
      | false =>
        obtain ⟨e, t1, h1, hk, hn1, hg⟩ := codeK_ok hm f L (1 :: p) (.code y) t h _ C hL (sub 1 _ _ hp rfl) hn hr
        refine ⟨e, t1, h1, hk, hn1, hn1, fun Γ hΓ hY fr ρ w act hI hV hd => wpIn_cond_false ?_ (hg.2 Γ hΓ hY fr ρ w act hI hV hd)⟩
        have := VR_evalE hV c
        rw [hc] at this; simpa [VR] using this
    | block id b =>
      simp only [codeK] at hr
      obtain ⟨e, t1, h1, hk, hn1, hg⟩ := codeK_ok hm f L (0 :: p) (.code b) t h _ C hL (sub 0 _ _ hp rfl) hn hr
      refine ⟨_, t1, h1, hk, hn1, hn1, fun Γ hΓ hY fr ρ w act hI hV hd => wpIn_block (wpIn_mono (hg.2 Γ hΓ hY fr ρ w act hI hV hd) fun e2 a2 w2 hp => ?_)⟩
      obtain ⟨rfl, hp⟩ := hp
      cases e2 with
      | exit i =>
        simp only [Exit.inBlock, blockExit]
        split
        · exact ⟨rfl, hp⟩
        · exact ⟨rfl, hp⟩
      | _ => exact ⟨rfl, hp⟩
    | loop b =>
      simp only [codeK] at hr
      split at hr
      · rename_i s hs
        have hb : subAt C p = some (.loop b) := by
          rcases hp with hp | hp
          · subst hp; simp [Loops.find] at hs
          · exact hp
        have hb2 := Loops.find_ok L p s hL hs
        rw [hb] at hb2
        injection hb2 with hb2
        obtain ⟨e, t1, h1, hk, hg⟩ := s.ok n0 t h K r hn hr
        rw [← hb2] at hg
        exact ⟨e, t1, h1, hk, hg.1, hg⟩
      · obtain ⟨e, t1, h1, hk, hn1, n, hg⟩ := codeK_ok hm f L (0 :: p) (.rounds b) t h _ C hL (sub 0 _ _ hp rfl) hn hr
        exact ⟨e, t1, h1, hk, hn1, Runs.of_rounds hg⟩
    | scope b =>
      simp only [codeK] at hr
      obtain ⟨e, t1, h1, hk, hn1, n, hg⟩ := codeK_ok hm f L (0 :: p) (.jumps b b) t h _ C hL (sub 0 _ _ hp rfl) hn hr
      exact ⟨e, t1, h1, hk, hn1, hn1, fun Γ hΓ hY fr ρ w act hI hV hd => wpIn_scope_hops n (hg.2 Γ hΓ hY fr ρ w act hI hV hd)⟩
    | rangeFunc g ps asg b =>
      simp only [codeK] at hr
      split at hr
      · rename_i s hs
        have hb : subAt C p = some (.rangeFunc g ps asg b) := by
          rcases hp with hp | hp
          · subst hp; simp [Loops.find] at hs
          · exact hp
        have hb2 := Loops.find_ok L p s hL hs
        rw [hb] at hb2
        injection hb2 with hb2
        obtain ⟨e, t1, h1, hk, hg⟩ := s.ok n0 t h K r hn hr
        rw [← hb2] at hg
        exact ⟨e, t1, h1, hk, hg.1, hg⟩
      · cases hr
    | _ => simp [codeK] at hr
def resA (P : Program) (t : List AV) (h : Heap) : List ResultVar → Option (List AV)
  | [] => some []
  | .tmp s :: l => (resA P t h l).map ((t.getD s (.val undef)) :: ·)
  | .cell a ty :: l => match t.getD a (.val undef) with
    | .ptr b o => match h.get b with
      | .live blk => match blk.cells with
        | .lit cs => (partA P ty cs o).bind fun v => (resA P t h l).map (v :: ·)
        | _ => none
      | _ => none
    | _ => none
def resV : List AV → AV
  | [v] => v
  | l => .tup l
theorem run_results {P : Program} {Γ : Ctx} {ρ : Ren} {h : Heap} {w : World} (hI : Inv Γ ρ h w) {t : List AV} {a : Act} (hV : VRs ρ t a.tmps.toList) : ∀ (l : List ResultVar) (vs : List AV), resA P t h l = some vs →
    ∃ us, (l.mapM fun r : ResultVar => (match r with
      | .tmp t => pure (a.tmps.getD t undef)
      | .cell x t => do loadVar t (← asAddr (a.tmps.getD x undef)) : Sem Value)).run P w = .ok us w ∧ VRs ρ vs us
  | [], vs, hr => by simp [resA] at hr; subst hr; exact ⟨[], rfl, by simp [VRs]⟩
  | .tmp s :: l, vs, hr => by
    simp only [resA, Option.map_eq_some_iff] at hr
    obtain ⟨vs', h1, rfl⟩ := hr
    obtain ⟨us, h2, h3⟩ := run_results hI hV l vs' h1
    refine ⟨a.tmps.getD s undef :: us, ?_, ?_⟩
    · simp only [List.mapM_cons, Sem.run_bind, Sem.run_pure, Result.andThen, h2]
    · simp only [VRs]; exact ⟨by simpa [evalE, Act.eval] using VR_evalE hV (.tmp s), h3⟩
  | .cell x ty :: l, vs, hr => by
    simp only [resA] at hr
    split at hr
    case h_2 => cases hr
    rename_i b o hx
    split at hr
    case h_2 => cases hr
    rename_i blk hblk
    split at hr
    case h_2 => cases hr
    rename_i cs hcs
    simp only [Option.bind_eq_some_iff, Option.map_eq_some_iff] at hr
    obtain ⟨v, hv, vs', h1, rfl⟩ := hr
    obtain ⟨us, h2, h3⟩ := run_results hI hV l vs' h1
    have hp := VR_evalE hV (.tmp x)
    simp only [evalE, Act.eval] at hp
    rw [hx] at hp
    simp only [VR] at hp
    obtain ⟨cb, co, cc, hρ, hp⟩ := hp
    have hca := hI.sim.cells b blk _ hblk hρ
    rw [hcs] at hca
    obtain ⟨u, h4, h5⟩ := loadVar_lit (P := P) hv hca
    refine ⟨u :: us, ?_, by simp only [VRs]; exact ⟨h5, h3⟩⟩
    have h6 : (asAddr (a.tmps.getD x undef)).run P w = .ok ⟨cb, co + o, none⟩ w := by rw [hp]; rfl
    simp only at h4
    simp only [List.mapM_cons, Sem.run_bind, h6, Sem.run_pure, Result.andThen, h4, h2]
def okExit : Exit → Bool
  | .ret => true
  | .normal => true
  | _ => false
theorem Inv.other {Γ : Ctx} {ρ : Ren} {h : Heap} {w w' : World} (hI : Inv Γ ρ h w) (hsz : w.heap.size ≤ w'.heap.size) (hc : ∀ a, w'.cell? a = w.cell? a) (hcells : ∀ (i : Nat) cs e q, w.heap[i]? = some (.cells cs e q) → w'.heap[i]? = some (.cells cs e q))
    (hold : ∀ i, i < ρ.base.heap.size ∨ i < Γ.w0.heap.size → w'.heap[i]? = w.heap[i]?) (ho : w'.os = w.os) (ht : w'.tape = w.tape) (hu : w'.output = w.output) : Inv Γ ρ h w' := by
  have hs := hI.sim
  refine ⟨⟨hs.some_, fun b blk c hb hρ => (hs.cells b blk c hb hρ).of_cell fun _ o => hc _, fun b blk c hb hρ hso => Nat.lt_of_lt_of_le (hs.inside b blk c hb hρ hso) hsz, fun b blk c hb hρ hrw hso => ?_, hs.apart, hs.dom, Nat.le_trans hs.baseLe hsz, fun i hi => by rw [hold i (.inl hi)]; exact hs.old i hi, hs.above⟩,
    hI.agree, hI.sameBase, ho.trans hI.os, ht.trans hI.tape, hu.trans hI.output, Nat.le_trans hI.size hsz, fun i hi hn => by rw [hold i (.inr hi)]; exact hI.keep i hi hn, hI.fresh⟩
  obtain ⟨h1, cs, e, h2, h3⟩ := hs.own b blk c hb hρ hrw hso
  exact ⟨h1, cs, e, hcells _ _ _ _ h2, h3⟩
theorem cell_putObj {w : World} {D : Nat} {o o' : Obj} (h : w.heap[D]? = some o) (ho : ∀ cs e q, o ≠ .cells cs e q) (ho' : ∀ cs e q, o' ≠ .cells cs e q) (a : Addr) : (w.putObj D o').cell? a = w.cell? a := by
  unfold World.cell?
  have hlt : D < w.heap.size := (Array.getElem?_eq_some_iff.1 h).1
  by_cases hD : a.block = D
  · rw [hD, World.putObj_heap_same hlt, h]
    cases o with
    | cells cs e q => exact absurd rfl (ho cs e q)
    | _ =>
      cases o' with
      | cells cs e q => exact absurd rfl (ho' cs e q)
      | _ => rfl
  · rw [World.putObj_heap_other hD]
theorem Inv.putObj {Γ : Ctx} {ρ : Ren} {h : Heap} {w : World} (hI : Inv Γ ρ h w) {D : Nat} {o o' : Obj} (hD : w.heap[D]? = some o) (ho : ∀ cs e q, o ≠ .cells cs e q) (ho' : ∀ cs e q, o' ≠ .cells cs e q) (h1 : Γ.w0.heap.size ≤ D) (h2 : ρ.base.heap.size ≤ D) : Inv Γ ρ h (w.putObj D o') := by
  refine hI.other (by simp) (cell_putObj hD ho ho') (fun i cs e q hi => ?_) (fun i hi => World.putObj_heap_other (by omega)) rfl rfl rfl
  rw [World.putObj_heap_other (fun e' => ?_)]
  · exact hi
  · subst e'; rw [hD] at hi; injection hi with hi; exact absurd hi (ho _ _ _)
theorem leaves_marks {P : Program} {fn : Func} {tmps : Array Value} {R : Ending → World → Prop} {Γ : Ctx} {ρ : Ren} {h : Heap} (hR : ∀ w2, Inv Γ ρ h w2 → ∃ v, (results fn tmps).run P w2 = .ok v w2 ∧ R (.returned v) w2) :
    ∀ (ds : List Deferred) (w : World), Inv Γ ρ h w → MarksL Γ ds w → LeavesInM (frF none) 0 P fn tmps R ds .returning w
  | [], w, hI, _ => by
    show LeavesIn _ _ _ _ _ _ _ _ _
    exact hR w hI
  | d :: ds, w, hI, hm => by
    obtain ⟨⟨D, rfl, ⟨h1, h2⟩, h3, h4⟩, h5⟩ := hm
    refine ⟨by simp, .inl ⟨D, w.putObj D (.deferred none), rfl, run_takeDeferred h3, ?_⟩⟩
    refine leaves_marks hR ds _ (hI.putObj h3 (by simp) (by simp) h1 (by rw [hI.sameBase]; exact h2)) ?_
    have : ∀ (ds : List Deferred), (∀ d' ∈ ds, d' ≠ ({ target := .collected D, args := #[] } : Deferred)) → MarksL Γ ds w → MarksL Γ ds (w.putObj D (.deferred none)) := by
      intro ds
      induction ds with
      | nil => intro _ _; trivial
      | cons d ds ih =>
        intro hne hm
        obtain ⟨⟨D', e1, e2, e3, e4⟩, e5⟩ := hm
        refine ⟨⟨D', e1, e2, ?_, e4⟩, ih (fun d' hd' => hne d' (List.mem_cons_of_mem _ hd')) e5⟩
        rw [World.putObj_heap_other (fun e' => ?_)]
        · exact e3
        · subst e'; exact hne d (List.mem_cons_self ..) e1
    exact this ds h4 h5
theorem callsIn_of_runs {P : Program} {Y : Ctx → Prop} {f : FuncId} {fn : Func} {c : Code} (hf : P.funcs[f]? = some fn) (hb : fn.body = some c) {n0 : Nat} {t t' : List AV} {h h' : Heap} {e : Exit} (hr : Runs P Y n0 c t h e t' h') (he : okExit e = true)
    {Γ : Ctx} (hΓ : Γ.n0 = n0) (hY : Y Γ) {ρ : Ren} {w : World} (hI : Inv Γ ρ h w) {cargs : Array Value} (hV : VRs ρ t (cargs ++ Array.replicate (fn.ntmps - cargs.size) undef).toList) {R : Ending → World → Prop}
    (hR : ∀ ρ2 w2 (a2 : Act), Inv Γ ρ2 h' w2 → VRs ρ2 t' a2.tmps.toList → ∃ v, (results fn a2.tmps).run P w2 = .ok v w2 ∧ R (.returned v) w2) : CallsIn Fence.wide 0 P f cargs w R := by
  refine callsIn_of_wp_marks (F := frF none) hf hb trivial (wpIn_mono (hr.2 Γ hΓ hY none ρ w _ hI hV ⟨fun l hl => by (cases hl), fun l hl => by (cases hl), trivial⟩) fun e2 a2 w2 hp => ?_)
  obtain ⟨rfl, ρ2, g2, g3, g4⟩ := hp
  have key := leaves_marks (P := P) (fn := fn) (tmps := a2.tmps) (R := R) (fun w3 h3 => hR ρ2 w3 a2 h3 g3) a2.defers w2 g2 g4.2.2
  cases e2 with
  | ret => exact key
  | normal => exact key
  | _ => simp [okExit] at he
theorem calls_of_runs {P : Program} {Y : Ctx → Prop} {f : FuncId} {fn : Func} {c : Code} (hf : P.funcs[f]? = some fn) (hb : fn.body = some c) {n0 : Nat} {t t' : List AV} {h h' : Heap} {e : Exit} (hr : Runs P Y n0 c t h e t' h') (he : okExit e = true)
    {Γ : Ctx} (hΓ : Γ.n0 = n0) (hY : Y Γ) {ρ : Ren} {w : World} (hI : Inv Γ ρ h w) {cargs : Array Value} (hV : VRs ρ t (cargs ++ Array.replicate (fn.ntmps - cargs.size) undef).toList) {R : Ending → World → Prop}
    (hR : ∀ ρ2 w2 (a2 : Act), Inv Γ ρ2 h' w2 → VRs ρ2 t' a2.tmps.toList → ∃ v, (results fn a2.tmps).run P w2 = .ok v w2 ∧ R (.returned v) w2) : Calls P f cargs w R :=
  callsIn_wide.1 (callsIn_of_runs hf hb hr he hΓ hY hI hV hR)
end Go.Ab
