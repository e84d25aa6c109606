/- An engine that names no program: what code does to what memory shows, evaluated over abstract values and an abstract heap, and that it is so. -/
import Derived.Test.YthlfckhjhagfaaaGreatCoreb
import Derived.Laws.StructEq
import Derived.Laws.BytesString
import Derived.Laws.Cover3
import Derived.Laws.IdiomStrings
import Derived.Lib.AppendStr
import Derived.Laws.CopyRow
set_option linter.unusedVariables false
set_option linter.unusedSimpArgs false
namespace Go.Ab
def EffOK (P : Program) (o : Oper) (E : Operand → AV) (H : Nat → Ent) (new : Nat) (e : Eff) : Prop :=
  ∀ (Γ : Ctx) (ρ : Ren) (h : Heap) (w : World) (a : Act), Inv Γ ρ h w → (∀ x ∈ o.op.operands, VR ρ (E x) (a.eval x)) → (∀ b ∈ e.rb, h.get b = H b) → Γ.n0 ≤ new → (∀ x, new ≤ x → x < new + e.nw → h.get x = .free) → LStep P Γ o ρ h w a e
def CallOK (P : Program) (f : FuncId) (args : List AV) (H : Nat → Ent) (new : Nat) (e : Eff) : Prop :=
  ∀ (Γ : Ctx) (ρ : Ren) (h : Heap) (w : World) (cargs : Array Value), Inv Γ ρ h w → VRs ρ args cargs.toList → (∀ b ∈ e.rb, h.get b = H b) → Γ.n0 ≤ new → (∀ x, new ≤ x → x < new + e.nw → h.get x = .free) →
    Invokes P f cargs w fun en w' => ∃ ρ' cv, en = .returned cv ∧ ρ.le ρ' ∧ VR ρ' e.val cv ∧ Inv Γ ρ' (h.upds e.wb) w'
structure Summ (P : Program) where
  f : FuncId
  S : {β : Type} → (Nat → Ent) → Nat → List AV → (Eff → Option β) → Option β
  ok : ∀ {β : Type} (H : Nat → Ent) (new : Nat) (args : List AV) (K : Eff → Option β) (r : β), S H new args K = some r → ∃ e, K e = some r ∧ CallOK P f args H new e
def Yields (P : Program) (l : Nat) (args : Array Value) (w : World) (R : Ending → World → Prop) : Prop :=
  ∃ fn tmps assign body, (Instr.yield l args).run P w = .ok (.round l fn tmps assign body) w ∧ RoundIn Fence.wide 0 P l fn tmps assign body w R
def YieldOK (P : Program) (Y : Ctx → Prop) (args : List AV) (H : Nat → Ent) (new : Nat) (e : Eff) : Prop :=
  ∀ (Γ : Ctx), Y Γ → ∀ (ρ : Ren) (h : Heap) (w : World) (cargs : Array Value), Inv Γ ρ h w → VRs ρ args cargs.toList → (∀ b ∈ e.rb, h.get b = H b) → Γ.n0 ≤ new → (∀ x, new ≤ x → x < new + e.nw → h.get x = .free) →
    Yields P ρ.base.drawn cargs w fun en w' => ∃ ρ' cv, en = .returned cv ∧ ρ.le ρ' ∧ VR ρ' e.val cv ∧ Inv Γ ρ' (h.upds e.wb) w'
def Stable (Y : Ctx → Prop) : Prop := ∀ (Γ : Ctx) (ρ : Ren) (h : Heap) (w : World), Y Γ → Inv Γ ρ h w → Γ.n0 ≤ h.length → Y ⟨h.length, ρ, h, w⟩
structure YSumm (P : Program) where
  Y : Ctx → Prop
  stable : Stable Y
  S : {β : Type} → (Nat → Ent) → Nat → List AV → (Eff → Option β) → Option β
  ok : ∀ {β : Type} (H : Nat → Ent) (new : Nat) (args : List AV) (K : Eff → Option β) (r : β), S H new args K = some r → ∃ e, K e = some r ∧ YieldOK P Y args H new e
structure Env (P : Program) where
  l : List (Summ P)
  y : Option (YSumm P)
instance {P : Program} : Coe (List (Summ P)) (Env P) := ⟨fun l => ⟨l, none⟩⟩
def YSumm.at_ {P : Program} : Option (YSumm P) → Ctx → Prop
  | none => fun _ => True
  | some s => s.Y
def Env.Y {P : Program} (env : Env P) : Ctx → Prop := YSumm.at_ env.y
theorem Env.stable {P : Program} (env : Env P) : Stable env.Y := by
  unfold Env.Y
  cases env.y with
  | none => exact fun _ _ _ _ _ _ _ => trivial
  | some s => exact s.stable
def findS {P : Program} : List (Summ P) → FuncId → Option (Summ P)
  | [], _ => none
  | s :: l, f => if s.f = f then some s else findS l f
def Env.find {P : Program} (env : Env P) (f : FuncId) : Option (Summ P) := findS env.l f
theorem findS_f {P : Program} : ∀ (l : List (Summ P)) (f : FuncId) (s : Summ P), findS l f = some s → s.f = f
  | [], f, s, h => by simp [findS] at h
  | x :: l, f, s, h => by
    simp only [findS] at h
    split at h
    · rename_i hf; injection h with h; subst h; exact hf
    · exact findS_f l f s h
theorem Env.find_f {P : Program} (l : Env P) (f : FuncId) (s : Summ P) (h : l.find f = some s) : s.f = f := findS_f _ f s h
def EffOKY (P : Program) (Y : Ctx → Prop) (o : Oper) (E : Operand → AV) (H : Nat → Ent) (new : Nat) (e : Eff) : Prop :=
  ∀ (Γ : Ctx), Y Γ → ∀ (ρ : Ren) (h : Heap) (w : World) (a : Act), Inv Γ ρ h w → (∀ x ∈ o.op.operands, VR ρ (E x) (a.eval x)) → (∀ b ∈ e.rb, h.get b = H b) → Γ.n0 ≤ new → (∀ x, new ≤ x → x < new + e.nw → h.get x = .free) → LStep P Γ o ρ h w a e
theorem EffOK.y {P : Program} {Y : Ctx → Prop} {o : Oper} {E : Operand → AV} {H : Nat → Ent} {new : Nat} {e : Eff} (h : EffOK P o E H new e) : EffOKY P Y o E H new e := fun Γ _ => h Γ
theorem effOK_y {β : Type} {P : Program} {Y : Ctx → Prop} {o : Oper} {E : Operand → AV} {H : Nat → Ent} {new : Nat} {K : Eff → Option β} {r : β} (h : ∃ e, K e = some r ∧ EffOK P o E H new e) : ∃ e, K e = some r ∧ EffOKY P Y o E H new e := by
  obtain ⟨e, h1, h2⟩ := h
  exact ⟨e, h1, h2.y⟩
def selK {β : Type} (i : Int) : Nat → Nat → (Nat → Option β) → Option β
  | _, 0, _ => none
  | j, n + 1, K => bif decide (i = (j : Int)) then K j else selK i (j + 1) n K
theorem selK_some {β : Type} {i : Int} {K : Nat → Option β} {r : β} : ∀ (n j : Nat), selK i j n K = some r → ∃ k, j ≤ k ∧ k < j + n ∧ i = (k : Int) ∧ K k = some r
  | 0, j, h => by simp [selK] at h
  | n + 1, j, h => by
    simp only [selK] at h
    cases hd : decide (i = (j : Int)) with
    | true => rw [hd] at h; exact ⟨j, Nat.le_refl _, by omega, by simpa using hd, h⟩
    | false =>
      rw [hd] at h
      obtain ⟨k, h1, h2, h3, h4⟩ := selK_some n (j + 1) h
      exact ⟨k, by omega, by omega, h3, h4⟩
def isArr : Ent → Bool
  | .live blk => match blk.cells with
    | .arr _ _ => true
    | .arrs _ _ => true
    | _ => false
  | _ => false
def idxAddrK {β : Type} (P : Program) (t : TypeId) (x i : AV) (H : Nat → Ent) (K : Eff → Option β) : Option β :=
  match intOfA i with
  | none => none
  | some n => match x, P.underlying t with
    | .ptr b o, some (.array len el) => (match P.info? el with
      | none => none
      | some ie => match isArr (H b) with
        | true => ifK (decide (0 ≤ n) && decide (n < (len : Int))) (K { val := .elt b o n.toNat ie.size 0 })
        | false => selK n 0 len fun j => K { val := .ptr b (o + j * ie.size) })
    | .slc b o len c, some (.slice el) => (match P.info? el with
      | none => none
      | some ie => match isArr (H b) with
        | true => ifK (decide (0 ≤ n) && decide (n < (len : Int))) (K { val := .elt b o n.toNat ie.size 0 })
        | false => selK n 0 len fun j => K { val := .ptr b (o + j * ie.size) })
    | _, _ => none
theorem idxAddrK_ok {β : Type} {P : Program} {o : Oper} {t : TypeId} {x i : Operand} (hop : o.op = .indexAddr t x i) {E : Operand → AV} {H : Nat → Ent} {new : Nat} {K : Eff → Option β} {r : β} (h : idxAddrK P t (E x) (E i) H K = some r) : ∃ e, K e = some r ∧ EffOK P o E H new e := by
  unfold idxAddrK at h
  split at h
  · cases h
  rename_i n hn
  have fin : ∀ (e : Eff) (len : Nat), e.wb = [] → (0 ≤ n ∧ n < (len : Int)) → (∀ chk, coreIndexAddr P t (E x) (E i) chk = need chk (0 ≤ n ∧ n < (len : Int)) { val := (match (E x) with | .ptr b o => .ptr b (o + n.toNat * ((P.info? (match P.underlying t with | some (.array _ el) => el | some (.slice el) => el | _ => 0)).map (·.size)).getD 0) | .slc b o _ _ => .ptr b (o + n.toNat * ((P.info? (match P.underlying t with | some (.array _ el) => el | some (.slice el) => el | _ => 0)).map (·.size)).getD 0) | a => a) }) →
      (∀ ρ cv, VR ρ (match (E x) with | .ptr b o => .ptr b (o + n.toNat * ((P.info? (match P.underlying t with | some (.array _ el) => el | some (.slice el) => el | _ => 0)).map (·.size)).getD 0) | .slc b o _ _ => .ptr b (o + n.toNat * ((P.info? (match P.underlying t with | some (.array _ el) => el | some (.slice el) => el | _ => 0)).map (·.size)).getD 0) | a => a) cv → VR ρ e.val cv) → EffOK P o E H new e := by
    intro e len hw hb hc hv Γ ρ h w a hI hE _ _ _
    have hok := coreIndexAddr_ok (P := P) (t := t) hI (hE x (by simp [hop, Op.operands])) (hE i (by simp [hop, Op.operands])) (chk := some ⟨_, hb⟩) (by rw [hc (some ⟨_, hb⟩)]; rfl) (by
      intro q hq
      simp at hq; subst hq; rfl)
    refine lstep_of_ok ?_
    obtain ⟨ρ', nx, cv, w', h1, h2, h3, h4, h5⟩ := hok
    refine ⟨ρ', nx, cv, w', by simpa only [execOp, hop] using h1, h2, h3, hv ρ' cv h4, ?_⟩
    rw [hw]; exact h5
  split at h
  · rename_i b ofs len el hx hu
    split at h
    · cases h
    rename_i ie hie
    split at h
    · obtain ⟨hb, hk⟩ := ifK_some h
      simp only [Bool.and_eq_true, decide_eq_true_eq] at hb
      refine ⟨_, hk, fin _ len rfl hb (fun chk => ?_) fun ρ cv hv => ?_⟩
      · simp only [coreIndexAddr, hn, Option.bind_some, hx, hu, hie, Option.map_some, Option.getD_some]
      · simp only [hx, hu, hie, Option.map_some, Option.getD_some, VR] at hv
        simpa [VR] using hv
    · obtain ⟨k, h1, h2, h3, hk⟩ := selK_some _ _ h
      refine ⟨_, hk, fin _ len rfl (by omega) (fun chk => ?_) fun ρ cv hv => ?_⟩
      · simp only [coreIndexAddr, hn, Option.bind_some, hx, hu, hie, Option.map_some, Option.getD_some]
      · simp only [hx, hu, hie, Option.map_some, Option.getD_some] at hv
        rw [h3] at hv; simpa using hv
  · rename_i b ofs len c el hx hu
    split at h
    · cases h
    rename_i ie hie
    split at h
    · obtain ⟨hb, hk⟩ := ifK_some h
      simp only [Bool.and_eq_true, decide_eq_true_eq] at hb
      refine ⟨_, hk, fin _ len rfl hb (fun chk => ?_) fun ρ cv hv => ?_⟩
      · simp only [coreIndexAddr, hn, Option.bind_some, hx, hu, hie, Option.map_some, Option.getD_some]
      · simp only [hx, hu, hie, Option.map_some, Option.getD_some, VR] at hv
        simpa [VR] using hv
    · obtain ⟨k, h1, h2, h3, hk⟩ := selK_some _ _ h
      refine ⟨_, hk, fin _ len rfl (by omega) (fun chk => ?_) fun ρ cv hv => ?_⟩
      · simp only [coreIndexAddr, hn, Option.bind_some, hx, hu, hie, Option.map_some, Option.getD_some]
      · simp only [hx, hu, hie, Option.map_some, Option.getD_some] at hv
        rw [h3] at hv; simpa using hv
  · cases h
def idxK {β : Type} (P : Program) (t : TypeId) (x i : AV) (K : Eff → Option β) : Option β :=
  match intOfA i with
  | none => none
  | some n => match x, P.underlying t with
    | .agg cs, some (.array len el) => (match P.info? el with
      | none => none
      | some ie => selK n 0 len fun j => (match partA P el cs (j * ie.size) with
        | some r => K { val := r }
        | none => none))
    | .val (.string s), some .string => ifK (decide (0 ≤ n) && decide (n < (s.size : Int))) (K { val := .val (.int .u8 ((s.data.toList.getD n.toNat 0).toNat : Int)) })
    | _, _ => none
theorem idxK_ok {β : Type} {P : Program} {o : Oper} {t : TypeId} {x i : Operand} (hop : o.op = .index t x i) {E : Operand → AV} {H : Nat → Ent} {new : Nat} {K : Eff → Option β} {r : β} (h : idxK P t (E x) (E i) K = some r) : ∃ e, K e = some r ∧ EffOK P o E H new e := by
  unfold idxK at h
  split at h
  · cases h
  rename_i n hn
  have fin : ∀ (e : Eff) (p : Prop) [Decidable p] (pf : p), e.wb = [] → e.ob = [] → coreIndex P t (E x) (E i) (some ⟨p, pf⟩) = need (some ⟨p, pf⟩) p e → EffOK P o E H new e := by
    intro e p _ pf hw hob hc Γ ρ h w a hI hE _ _ _
    have hok := coreIndex_ok (P := P) (t := t) hI (hE x (by simp [hop, Op.operands])) (hE i (by simp [hop, Op.operands])) (chk := some ⟨p, pf⟩) (by rw [hc]; rfl) (by
      intro q hq
      simp [hob] at hq; subst hq; rfl)
    refine lstep_of_ok ?_
    obtain ⟨ρ', nx, cv, w', h1, h2, h3, h4, h5⟩ := hok
    exact ⟨ρ', nx, cv, w', by simpa only [execOp, hop] using h1, h2, h3, h4, h5⟩
  split at h
  · rename_i cs len el hx hu
    split at h
    · cases h
    rename_i ie hie
    obtain ⟨k, h1, h2, h3, hk⟩ := selK_some _ _ h
    split at hk
    case h_2 => cases hk
    rename_i v hv
    have hb : 0 ≤ n ∧ n < (len : Int) := by omega
    refine ⟨_, hk, fin _ _ hb rfl rfl ?_⟩
    have hkn : n.toNat = k := by omega
    simp only [coreIndex, hn, Option.bind_some, hx, hu, hie, hkn, hv]
  · rename_i s hx hu
    obtain ⟨hb, hk⟩ := ifK_some h
    simp only [Bool.and_eq_true, decide_eq_true_eq] at hb
    refine ⟨_, hk, fin _ _ hb rfl rfl ?_⟩
    simp only [coreIndex, hn, Option.bind_some, hx, hu]
  · cases h
def eltAt (w o i : Nat) : Option Nat :=
  if w = 0 then none else if w = 1 then some (o + i) else match o with
    | 0 => some i
    | o' + 1 => if (o' + 1) % w = 0 then some ((o' + 1) / w + i) else none
theorem eltAt_some {w o i k : Nat} (h : eltAt w o i = some k) : o + i * w = k * w ∧ 0 < w := by
  unfold eltAt at h
  split at h
  · cases h
  rename_i h1
  split at h
  · rename_i hw; injection h with h; subst h; subst hw; simp
  split at h
  · injection h with h; subst h; exact ⟨by simp, by omega⟩
  · split at h
    · rename_i h2 h3
      injection h with h; subst h
      refine ⟨?_, by omega⟩
      rw [Nat.add_mul, Nat.div_mul_cancel (Nat.dvd_of_mod_eq_zero h3)]
    · cases h
theorem flatl_get {s : Sh} (hf : s.flat = true) (hw : 0 < s.w) {l : List s.T} {k : Nat} {y : s.T} (hk : l[k]? = some y) {j : Nat} {v : Value} (hj : (s.enc y)[j]? = some v) : (s.flatl l)[k * s.w + j]? = some v := by
  have hjw : j < s.w := by
    have := enc_length s y hf
    rcases Nat.lt_or_ge j (s.enc y).length with h' | h'
    · omega
    · simp [List.getElem?_eq_none h'] at hj
  induction l generalizing k with
  | nil => simp at hk
  | cons z l ih =>
    have hz := enc_length s z hf
    simp only [Sh.flatl, List.flatMap_cons]
    cases k with
    | zero =>
      simp at hk; subst hk
      rw [List.getElem?_append_left (by omega)]; simpa using hj
    | succ k =>
      rw [List.getElem?_append_right (by rw [hz, Nat.add_mul]; omega), hz]
      have := ih (by simpa using hk)
      simp only [Sh.flatl] at this
      rw [show (k + 1) * s.w + j - s.w = k * s.w + j by rw [Nat.add_mul]; omega]
      exact this
def eltLoadK {β : Type} (P : Program) (t : TypeId) (b o i w f : Nat) (H : Nat → Ent) (new : Nat) (K : Eff → Option β) : Option β :=
  match H b with
  | .live blk => match blk.cells with
    | .arr s l => if s.flat = true ∧ s.w = w then (match eltAt w o i with
      | none => none
      | some k => (l[k]?).bind fun y => match partA P t ((s.enc y).map .val) f with
        | some a => K { rb := [b], val := a }
        | none => none) else none
    | .arrs s l => if s.flat = true ∧ s.w = 1 ∧ w = 1 ∧ f = 0 then (match P.underlying t with
      | some (.slice _) => (match eltAt 1 o i with
        | none => none
        | some k => (l[k]?).bind fun r => K { rb := [b], wb := [(new, .live { cells := .arr s r, rw := false })], nw := 1, val := .slc new 0 r.length .low })
      | _ => none) else none
    | _ => none
  | _ => none
theorem arr_lit {ρ : Ren} {w : World} {cb co : Nat} {s : Sh} {l : List s.T} (hf : s.flat = true) (hw : 0 < s.w) (hc : CellsAt ρ w cb co (.arr s l)) {k : Nat} {y : s.T} (hk : l[k]? = some y) : CellsAt ρ w cb (co + k * s.w) (.lit ((s.enc y).map .val)) := by
  intro j v hj
  simp only [List.getElem?_map, Option.map_eq_some_iff] at hj
  obtain ⟨u, h1, rfl⟩ := hj
  exact ⟨u, by have := hc _ _ (flatl_get hf hw hk h1); rw [Nat.add_assoc]; exact this, by simp [VR]⟩
theorem Inv.addArr {Γ : Ctx} {ρ : Ren} {h : Heap} {w : World} (hI : Inv Γ ρ h w) {new : Nat} (hn : Γ.n0 ≤ new) (hfree : h.get new = .free) (s : Sh) (r : List s.T) (cb co : Nat) (hr : ∀ (j : Nat) (v : Value), (s.flatl r)[j]? = some v → ρ.base.cell? ⟨cb, co + j, none⟩ = some v) :
    ρ.le (ρ.put new (cb, co, 0)) ∧ Inv Γ (ρ.put new (cb, co, 0)) (h.upd new (.live { cells := .arr s r, rw := false })) w := by
  obtain ⟨h1, h2⟩ := hI.addRo hn hfree (s.flatl r) cb co hr
  refine ⟨h1, ?_⟩
  have sw : ∀ x blk, (h.upd new (.live { cells := .arr s r, rw := false })).get x = .live blk → ∃ blk', (h.upd new (.live { cells := .sym (s.flatl r), rw := false })).get x = .live blk' ∧ blk'.rw = blk.rw ∧ blk'.grow = blk.grow ∧ blk'.cells.len = blk.cells.len ∧ (∀ ρ w cb co, CellsAt ρ w cb co blk'.cells → CellsAt ρ w cb co blk.cells) := by
    intro x blk hx
    rw [Heap.get_upd] at hx ⊢
    by_cases hxn : x = new
    · rw [if_pos hxn] at hx ⊢
      injection hx with hx; subst hx
      exact ⟨_, rfl, rfl, rfl, rfl, fun ρ w cb co h => h⟩
    · rw [if_neg hxn] at hx ⊢
      exact ⟨blk, hx, rfl, rfl, rfl, fun _ _ _ _ h => h⟩
  have sol : ∀ (blk blk' : Blk) c, blk'.rw = blk.rw → blk'.cells.len = blk.cells.len → blk.solid c → blk'.solid c := fun blk blk' c e1 e2 hs => by
    unfold Blk.solid at *
    rw [e1, e2]; exact hs
  refine ⟨⟨fun x blk hx => ?_, fun x blk c hx hc => ?_, fun x blk c hx hc hs => ?_, fun x blk c hx hc hr hs => ?_, fun x y xb yb c d hx hy hne hc hd hr hs hs' => ?_, fun x hx => ?_, h2.sim.baseLe, h2.sim.old, fun x blk c hx hc hr hs => ?_⟩, h2.agree, h2.sameBase, h2.os, h2.tape, h2.output, h2.size, h2.keep, fun x blk c hx hc hr hs => ?_⟩
  · obtain ⟨blk', h3, _⟩ := sw x blk hx; exact h2.sim.some_ x blk' h3
  · obtain ⟨blk', h3, _, _, _, h4⟩ := sw x blk hx; exact h4 _ _ _ _ (h2.sim.cells x blk' c h3 hc)
  · obtain ⟨blk', h3, e1, _, e2, _⟩ := sw x blk hx; exact h2.sim.inside x blk' c h3 hc (sol _ _ _ e1 e2 hs)
  · obtain ⟨blk', h3, e1, e3, e2, _⟩ := sw x blk hx
    obtain ⟨k1, cs, el, k2, k3, k4⟩ := h2.sim.own x blk' c h3 hc (e1.trans hr) (sol _ _ _ e1 e2 hs)
    exact ⟨k1, cs, el, k2, by rw [← e2]; exact k3, by rw [← e3]; exact k4⟩
  · obtain ⟨xb', h3, e1, _, e2, _⟩ := sw x xb hx
    obtain ⟨yb', h3', e1', _, e2', _⟩ := sw y yb hy
    exact h2.sim.apart x y xb' yb' c d h3 h3' hne hc hd (e1.trans hr) (sol _ _ _ e1 e2 hs) (sol _ _ _ e1' e2' hs')
  · refine h2.sim.dom x ?_
    rw [Heap.get_upd] at hx ⊢
    split at hx
    · cases hx
    · rename_i hxn; rw [if_neg hxn]; exact hx
  · obtain ⟨blk', h3, e1, _, e2, _⟩ := sw x blk hx; exact h2.sim.above x blk' c h3 hc (e1.trans hr) (sol _ _ _ e1 e2 hs)
  · obtain ⟨blk', h3, e1, _, e2, _⟩ := sw x blk hx; exact h2.fresh x blk' c h3 hc (e1.trans hr) (sol _ _ _ e1 e2 hs)
theorem eltLoadK_ok {β : Type} {P : Program} {o : Oper} {t : TypeId} {x : Operand} (hop : o.op = .load t x) {E : Operand → AV} {b ofs i w f : Nat} (hx : E x = .elt b ofs i w f) {H : Nat → Ent} {new : Nat} {K : Eff → Option β} {r : β} (h : eltLoadK P t b ofs i w f H new K = some r) : ∃ e, K e = some r ∧ EffOK P o E H new e := by
  unfold eltLoadK at h
  split at h
  case h_2 => cases h
  rename_i blk hblk
  have hsure : ∀ (w : World) a r, (loadVar t a).run P w = .ok r w → (Instr.loadAt t (.pointer (some a))).run P w = .ok r w := fun w a r hr => by
    simp only [Instr.loadAt, Sem.run_bind, Instr.sureAddr, Result.andThen]
    exact hr
  split at h
  · rename_i s l hcells
    split at h
    case isFalse => cases h
    rename_i hs
    obtain ⟨hf, hw⟩ := hs
    split at h
    · cases h
    rename_i k hk
    rw [Option.bind_eq_some_iff] at h
    obtain ⟨y, hy, h⟩ := h
    split at h
    case h_2 => cases h
    rename_i a ha
    refine ⟨_, h, fun Γ ρ hp wd act hI hE hH hn hfree => lstep_of_ok ?_⟩
    have hv := hE x (by simp [hop, Op.operands])
    rw [hx] at hv
    simp only [VR] at hv
    obtain ⟨cb, co, cc, hρ, hv⟩ := hv
    have hb : hp.get b = .live blk := by rw [hH b (by simp)]; exact hblk
    have hca := hI.sim.cells b blk _ hb hρ
    rw [hcells] at hca
    obtain ⟨hk1, hk2⟩ := eltAt_some hk
    subst hw
    have hla := arr_lit hf hk2 hca hy
    obtain ⟨v, h1, h2⟩ := loadVar_lit (P := P) ha hla
    refine .pure hI v ?_ h2 rfl
    simp only [execOp, hop, hv]
    refine run_v (hsure wd _ v ?_)
    have e : co + (ofs + i * s.w + f) = co + k * s.w + f := by omega
    rw [e]; exact h1
  · rename_i s l hcells
    split at h
    case isFalse => cases h
    rename_i hs
    obtain ⟨hf, hw, hw1, hf0⟩ := hs
    subst hw1; subst hf0
    split at h
    case h_2 => cases h
    rename_i el hu
    split at h
    · cases h
    rename_i k hk
    obtain ⟨hk1, _⟩ := eltAt_some hk
    have hk1 : k = ofs + i := by omega
    subst hk1
    rw [Option.bind_eq_some_iff] at h
    obtain ⟨row, hy, h⟩ := h
    refine ⟨_, h, fun Γ ρ hp wd act hI hE hH hn hfree => lstep_of_ok ?_⟩
    have hv := hE x (by simp [hop, Op.operands])
    rw [hx] at hv
    simp only [VR] at hv
    obtain ⟨cb, co, cc, hρ, hv⟩ := hv
    have hb : hp.get b = .live blk := by rw [hH b (by simp)]; exact hblk
    have hca := hI.sim.cells b blk _ hb hρ
    rw [hcells] at hca
    obtain ⟨cv, h1, h2⟩ := hca _ row hy
    have hlen : (s.flatl row).length = row.length := by rw [flatl_length s hf, hw, Nat.mul_one]
    have hag : isAggD (.slice el) = false := rfl
    have hrun : (Instr.loadAt t (act.eval x)).run P wd = .ok cv wd := by
      rw [hv]
      refine hsure wd _ cv ?_
      have e : co + (ofs + i * 1 + 0) = co + (ofs + i) := by omega
      rw [e]
      simp only at h1
      simp only [loadVar, Sem.run_bind, run_isAgg hu, Result.andThen, hag, Bool.false_eq_true, if_false, run_load, h1]
    have hfr := hfree new (Nat.le_refl _) (by simp)
    have hexec : (execOp act.eval o).run P wd = .ok (.value cv) wd := by
      simp only [execOp, hop]
      exact run_v hrun
    rcases h2 with ⟨h3, a, h4⟩ | ⟨b', o', c', h3, h4, h5⟩
    · obtain ⟨k1, k2⟩ := hI.addArr hn hfr s row 0 0 (by rw [h3]; simp)
      refine ⟨_, _, cv, wd, hexec, .inl rfl, k1, ?_, k2⟩
      have : row.length = 0 := by rw [← hlen, h3]; rfl
      simp only [VR]; exact .inr ⟨this, a, h4⟩
    · obtain ⟨k1, k2⟩ := hI.addArr hn hfr s row b' o' h5
      refine ⟨_, _, cv, wd, hexec, .inl rfl, k1, ?_, k2⟩
      rw [hlen] at h3 h4
      simp only [VR]; exact .inl ⟨b', o', 0, c', by simp [Ren.put], h4, by rw [h3]; rfl⟩
  · cases h
def binK {β : Type} (P : Program) (o : Oper) (E : Operand → AV) (op : BinOp) (x y : Operand) (K : Eff → Option β) (base : Option β) : Option β :=
  match op, E x, E y with
  | .quo, .val (.int k a), .val (.int k' b) => if k = k' then ifK (!decide (b = 0)) (K { val := .val (.int k (k.wrap (a.tdiv b))) }) else none
  | .rem, .val (.int k a), .val (.int k' b) => if k = k' then ifK (!decide (b = 0)) (K { val := .val (.int k (a.tmod b)) }) else none
  | .shl, .val (.int k a), .val (.int _ b) => ifK (decide (0 ≤ b)) (K { val := .val (.int k (k.wrap (a * 2 ^ min b.toNat k.bits))) })
  | .shr, .val (.int k a), .val (.int _ b) => ifK (decide (0 ≤ b)) (K { val := .val (.int k (a.fdiv (2 ^ min b.toNat k.bits))) })
  | _, _, _ => base
theorem binK_ok {β : Type} {P : Program} {o : Oper} {op : BinOp} {t yt : TypeId} {x y : Operand} (hop : o.op = .binOp op t x y yt) {E : Operand → AV} {H : Nat → Ent} {new : Nat} {K : Eff → Option β} {base : Option β} {r : β}
    (hbase : base = some r → ∃ e, K e = some r ∧ EffOK P o E H new e) (h : binK P o E op x y K base = some r) : ∃ e, K e = some r ∧ EffOK P o E H new e := by
  have fin : ∀ (e : Eff) (p : Pf), arith op (E x) (E y) (some p) = some { e with ob := e.ob } → (∀ q ∈ e.ob, q.holds) → ∀ e0 : Eff, e0.val = e.val → e0.wb = [] → EffOK P o E H new e0 := by
    intro e p hc hob e0 hv hw Γ ρ hp wd act hI hE _ _ _
    refine lstep_of_ok ?_
    obtain ⟨v, h1, h2, h3⟩ := arith_run (P := P) (t := t) hc hob (hE x (by simp [hop, Op.operands])) (hE y (by simp [hop, Op.operands])) wd x y
    refine .pure hI v ?_ (by rw [hv]; exact h2) hw
    simp only [execOp, hop]
    exact run_v h1
  unfold binK at h
  split at h
  · rename_i k a k' b hx hy
    split at h
    case isFalse => cases h
    rename_i hk; subst hk
    obtain ⟨hb, hK⟩ := ifK_some h
    have hb : b ≠ 0 := by simpa using hb
    refine ⟨_, hK, fin { val := .val (.int k (k.wrap (a.tdiv b))), ob := [.prop (b ≠ 0) (b ≠ 0)] } ⟨_, hb⟩ (by simp [arith, hx, hy]) (by simp [Ob.holds]) _ rfl rfl⟩
  · rename_i k a k' b hx hy
    split at h
    case isFalse => cases h
    rename_i hk; subst hk
    obtain ⟨hb, hK⟩ := ifK_some h
    have hb : b ≠ 0 := by simpa using hb
    refine ⟨_, hK, fin { val := .val (.int k (a.tmod b)), ob := [.prop (b ≠ 0) (b ≠ 0)] } ⟨_, hb⟩ (by simp [arith, hx, hy]) (by simp [Ob.holds]) _ rfl rfl⟩
  · rename_i k a k' b hx hy
    obtain ⟨hb, hK⟩ := ifK_some h
    have hb : 0 ≤ b := by simpa using hb
    refine ⟨_, hK, fin { val := .val (.int k (k.wrap (a * 2 ^ min b.toNat k.bits))), ob := [.prop (0 ≤ b) (0 ≤ b)] } ⟨_, hb⟩ (by simp [arith, hx, hy]) (by simp [Ob.holds]) _ rfl rfl⟩
  · rename_i k a k' b hx hy
    obtain ⟨hb, hK⟩ := ifK_some h
    have hb : 0 ≤ b := by simpa using hb
    refine ⟨_, hK, fin { val := .val (.int k (a.fdiv (2 ^ min b.toNat k.bits))), ob := [.prop (0 ≤ b) (0 ≤ b)] } ⟨_, hb⟩ (by simp [arith, hx, hy]) (by simp [Ob.holds]) _ rfl rfl⟩
  · exact hbase h
def optInt (E : Operand → AV) (d : Int) : Option Operand → Option Int
  | none => some d
  | some x => intOfA (E x)
def sliceK {β : Type} (P : Program) (t : TypeId) (E : Operand → AV) (x : Operand) (lo hi : Option Operand) (K : Eff → Option β) : Option β :=
  match E x, P.underlying t with
  | .slc b o n cp, some (.slice el) => (match P.info? el with
    | none => none
    | some ie => (match optInt E 0 lo, optInt E n hi with
      | some l, some h => ifK (decide (0 ≤ l) && (decide (l ≤ h) && decide (h ≤ (n : Int)))) (K { val := (match lo with
          | none => .slc b o h.toNat (match cp with
            | .unk => .unk
            | _ => .part)
          | some _ => .slc b (if ie.size = 1 then o + l.toNat else o + l.toNat * ie.size) (h - l).toNat .part) })
      | _, _ => none))
  | .val (.slice none 0 0), some (.slice el) => (match P.info? el with
    | none => none
    | some ie => (match optInt E 0 lo, optInt E 0 hi with
      | some l, some h => ifK (decide (l = 0) && decide (h = 0)) (K { val := .val (.slice none 0 0) })
      | _, _ => none))
  | .val (.string s), some .string => (match optInt E 0 lo, optInt E s.size hi with
    | some l, some h => ifK (decide (0 ≤ l) && (decide (l ≤ h) && decide (h ≤ (s.size : Int)))) (K { val := .val (.string (s.extract l.toNat h.toNat)) })
    | _, _ => none)
  | _, _ => none
theorem run_bounds {P : Program} {w : World} (isS : Bool) (n c : Nat) (l h : Int) (hn : n ≤ c) (h0 : 0 ≤ l) (h1 : l ≤ h) (h2 : h ≤ (n : Int)) (lo hi : Option Value) (hlo : (lo = none ∧ l = 0) ∨ ∃ k, lo = some (.int k l)) (hhi : (hi = none ∧ h = n) ∨ ∃ k, hi = some (.int k h)) :
    (Instr.sliceBounds isS n c lo hi none).run P w = .ok (l.toNat, h.toNat, c) w := by
  have b1 : ∀ (y : Nat) (code : BoundsCode) (k : IntKind) (i : Int), 0 ≤ i → i ≤ (y : Int) → (Instr.sliceBound (.int k i) y code).run P w = .ok i.toNat w := fun y code k i g1 g2 => by
    unfold Instr.sliceBound
    simp only [Sem.run_bind, asIntOf]
    show (if 0 ≤ i ∧ i ≤ (y : Int) then pure i.toNat else boundsPanic k i y code : Sem Nat).run P w = _
    rw [if_pos ⟨g1, g2⟩]; rfl
  have ht : ((n : Int)).toNat = n := by simp
  rcases hlo with ⟨rfl, rfl⟩ | ⟨k, rfl⟩ <;> rcases hhi with ⟨rfl, rfl⟩ | ⟨k', rfl⟩
  · simp only [Instr.sliceBounds, Sem.run_bind, Sem.run_pure, Result.andThen, ht]
    rfl
  · simp only [Instr.sliceBounds, Sem.run_bind, Sem.run_pure, Result.andThen, b1 c _ k' h (by omega) (by omega)]
    rfl
  · simp only [Instr.sliceBounds, Sem.run_bind, Sem.run_pure, Result.andThen, b1 n _ k l h0 h1, ht]
  · simp only [Instr.sliceBounds, Sem.run_bind, Sem.run_pure, Result.andThen, b1 c _ k' h (by omega) (by omega), b1 h.toNat _ k l h0 (by omega)]
theorem optInt_ok {ρ : Ren} {E : Operand → AV} {d l : Int} {x : Option Operand} {C : Operand → Value} (h : optInt E d x = some l) (hv : ∀ y, x = some y → VR ρ (E y) (C y)) : (x.map C = none ∧ l = d) ∨ ∃ k, x.map C = some (.int k l) := by
  cases x with
  | none => simp only [optInt] at h; injection h with h; exact .inl ⟨rfl, h.symm⟩
  | some y =>
    simp only [optInt] at h
    obtain ⟨k, hk⟩ := intOfA_some h (hv y rfl)
    exact .inr ⟨k, by simp [hk]⟩
theorem sliceK_ok {β : Type} {P : Program} {o : Oper} {t : TypeId} {x : Operand} {lo hi : Option Operand} (hop : o.op = .slice t x lo hi none) {E : Operand → AV} {H : Nat → Ent} {new : Nat} {K : Eff → Option β} {r : β} (h : sliceK P t E x lo hi K = some r) : ∃ e, K e = some r ∧ EffOK P o E H new e := by
  have ops : ∀ (a : Act) (ρ : Ren), (∀ z ∈ o.op.operands, VR ρ (E z) (a.eval z)) → VR ρ (E x) (a.eval x) ∧ (∀ y, lo = some y → VR ρ (E y) (a.eval y)) ∧ ∀ y, hi = some y → VR ρ (E y) (a.eval y) := fun a ρ hE => by
    rw [hop] at hE
    refine ⟨hE x (by simp [Op.operands]), fun y hy => hE y (by subst hy; simp [Op.operands]), fun y hy => hE y (by subst hy; simp [Op.operands])⟩
  unfold sliceK at h
  split at h
  · rename_i b ofs n cp el hx hu
    split at h
    · cases h
    rename_i ie hie
    split at h
    case h_2 => cases h
    rename_i l hh hl hh2
    obtain ⟨hb, hK⟩ := ifK_some h
    simp only [Bool.and_eq_true, decide_eq_true_eq] at hb
    obtain ⟨h0, h1, h2⟩ := hb
    refine ⟨_, hK, fun Γ ρ hp w a hI hE hH hn hfree => lstep_of_ok ?_⟩
    obtain ⟨hvx, hvl, hvh⟩ := ops a ρ hE
    rw [hx] at hvx
    have bnd : ∀ (ad : Option Addr) (c : Nat), n ≤ c → a.eval x = .slice ad n c → (execOp a.eval o).run P w = .ok (.value (.slice (if c = l.toNat then ad else ad.map (·.add (l.toNat * ie.size))) (hh.toNat - l.toNat) (c - l.toNat))) w := fun ad c hc hax => by
      have hr := run_bounds (P := P) (w := w) true n c l hh hc h0 h1 h2 (lo.map a.eval) (hi.map a.eval) (optInt_ok hl hvl) (by
        rcases optInt_ok hh2 hvh with ⟨g1, g2⟩ | g
        · exact .inl ⟨g1, g2⟩
        · exact .inr g)
      simp only [execOp, hop, hax, Option.map_none]
      refine run_v ?_
      simp only [Instr.sliceAt, Instr.slice, Sem.run_bind, run_underlying' hu, Result.andThen, hr, run_size hie, Sem.run_pure]
    have mul : (if ie.size = 1 then ofs + l.toNat else ofs + l.toNat * ie.size) = ofs + l.toNat * ie.size := by
      split
      · rename_i hs; rw [hs, Nat.mul_one]
      · rfl
    have gen : ∀ (ad : Option Addr) (c : Nat), n ≤ c → a.eval x = .slice ad n c → (n = 0 ∧ c = 0 → True) → ∀ v : AV, VR ρ v (.slice (if c = l.toNat then ad else ad.map (·.add (l.toNat * ie.size))) (hh.toNat - l.toNat) (c - l.toNat)) → OpOK P Γ ρ hp w (execOp a.eval o) { val := v } := fun ad c hc hax _ v hv => .pure hI _ (bnd ad c hc hax) hv rfl
    have nl : lo = none → l = 0 := fun e => by subst e; simp only [optInt] at hl; injection hl with hl; exact hl.symm
    cases hlo : lo with
    | none =>
      have hl0 := nl hlo
      subst hl0
      simp only [Int.toNat_zero, Nat.zero_mul, Nat.sub_zero] at *
      have same : ∀ (ad : Option Addr) (c : Nat), (if c = 0 then ad else ad.map (·.add 0)) = ad := fun ad c => by
        split
        · rfl
        · cases ad <;> simp [Addr.add]
      cases cp with
      | unk =>
        simp only [VR] at hvx
        rcases hvx with ⟨cb, co, cc, c', k1, k2, k3, k4⟩ | ⟨k1, ad, k4⟩
        · refine gen _ _ k2 k4 (fun _ => trivial) _ ?_
          rw [same]; simp only [VR]
          exact .inl ⟨cb, co, cc, c', k1, by omega, k3, rfl⟩
        · subst k1
          have : hh.toNat = 0 := by omega
          refine gen _ _ (Nat.le_refl _) k4 (fun _ => trivial) _ ?_
          rw [same, this]; simp only [VR]
          exact .inr ⟨trivial, ad, rfl⟩
      | _ =>
        rcases hvx.slc_cases with ⟨cb, co, cc, c', k1, k2, k4⟩ | ⟨k1, ad, k4⟩
        · refine gen _ _ k2 k4 (fun _ => trivial) _ ?_
          rw [same]; simp only [VR]
          exact .inl ⟨cb, co, cc, c', k1, by omega, rfl⟩
        · subst k1
          have : hh.toNat = 0 := by omega
          refine gen _ _ (Nat.le_refl _) k4 (fun _ => trivial) _ ?_
          rw [same, this]; simp only [VR]
          exact .inr ⟨trivial, ad, rfl⟩
    | some y =>
      simp only
      have e1 : (hh - l).toNat = hh.toNat - l.toNat := by omega
      rcases hvx.slc_cases with ⟨cb, co, cc, c', k1, k2, k4⟩ | ⟨k1, ad, k4⟩
      · refine gen _ _ k2 k4 (fun _ => trivial) _ ?_
        rw [e1, mul]
        by_cases hc : c' = l.toNat
        · rw [if_pos hc]
          have z1 : hh.toNat - l.toNat = 0 := by omega
          have z2 : c' - l.toNat = 0 := by omega
          rw [z1, z2]; simp only [VR]
          exact .inr ⟨trivial, _, rfl⟩
        · rw [if_neg hc]; simp only [VR]
          exact .inl ⟨cb, co, cc, c' - l.toNat, k1, by omega, by simp only [Option.map_some, add_lit]; rw [Nat.add_assoc]⟩
      · subst k1
        have z0 : l.toNat = 0 ∧ hh.toNat = 0 := by omega
        refine gen _ _ (Nat.le_refl _) k4 (fun _ => trivial) _ ?_
        rw [e1, z0.1, z0.2]; simp only [VR]
        exact .inr ⟨trivial, ad, by simp⟩
  · rename_i el hx hu
    split at h
    · cases h
    rename_i ie hie
    split at h
    case h_2 => cases h
    rename_i l hh hl hh2
    obtain ⟨hb, hK⟩ := ifK_some h
    simp only [Bool.and_eq_true, decide_eq_true_eq] at hb
    obtain ⟨h0, h1⟩ := hb
    refine ⟨_, hK, fun Γ ρ hp w a hI hE hH hn hfree => lstep_of_ok ?_⟩
    obtain ⟨hvx, hvl, hvh⟩ := ops a ρ hE
    rw [hx] at hvx
    simp only [VR] at hvx
    have hr := run_bounds (P := P) (w := w) true 0 0 l hh (Nat.le_refl _) (by omega) (by omega) (by omega) (lo.map a.eval) (hi.map a.eval) (optInt_ok hl hvl) (by
        rcases optInt_ok hh2 hvh with ⟨g1, g2⟩ | g
        · exact .inl ⟨g1, by simpa using g2⟩
        · exact .inr g)
    refine .pure hI (.slice none 0 0) ?_ (by simp [VR]) rfl
    simp only [execOp, hop, hvx, Option.map_none]
    refine run_v ?_
    simp only [Instr.sliceAt, Instr.slice, Sem.run_bind, run_underlying' hu, Result.andThen, hr, run_size hie, Sem.run_pure, h0, h1]
    simp
  · rename_i s hx hu
    split at h
    case h_2 => cases h
    rename_i l hh hl hh2
    obtain ⟨hb, hK⟩ := ifK_some h
    simp only [Bool.and_eq_true, decide_eq_true_eq] at hb
    obtain ⟨h0, h1, h2⟩ := hb
    refine ⟨_, hK, fun Γ ρ hp w a hI hE hH hn hfree => lstep_of_ok ?_⟩
    obtain ⟨hvx, hvl, hvh⟩ := ops a ρ hE
    rw [hx] at hvx
    simp only [VR] at hvx
    have hr := run_bounds (P := P) (w := w) false s.size s.size l hh (Nat.le_refl _) h0 h1 h2 (lo.map a.eval) (hi.map a.eval) (optInt_ok hl hvl) (by
        rcases optInt_ok hh2 hvh with ⟨g1, g2⟩ | g
        · exact .inl ⟨g1, g2⟩
        · exact .inr g)
    refine .pure hI (.string (s.extract l.toNat hh.toNat)) ?_ (by simp [VR]) rfl
    simp only [execOp, hop, hvx, Option.map_none]
    refine run_v ?_
    simp only [Instr.sliceAt, Instr.slice, Sem.run_bind, run_underlying' hu, Result.andThen, hr, Sem.run_pure, Option.isSome_none, Bool.false_eq_true, if_false]
  · cases h
def slice3K {β : Type} (P : Program) (t : TypeId) (E : Operand → AV) (x : Operand) (lo : Option Operand) (hi mx : Operand) (K : Eff → Option β) : Option β :=
  match E x, P.underlying t with
  | .slc b o n cp, some (.slice el) => (match P.info? el with
    | none => none
    | some ie => (match optInt E 0 lo, intOfA (E hi), intOfA (E mx) with
      | some l, some h, some m => ifK (decide (0 ≤ l) && (decide (l ≤ h) && (decide (h ≤ m) && decide (m ≤ (n : Int))))) (K { val := .slc b (if ie.size = 1 then o + l.toNat else o + l.toNat * ie.size) (h - l).toNat .part })
      | _, _, _ => none))
  | _, _ => none
theorem run_bounds3 {P : Program} {w : World} (n c : Nat) (l h m : Int) (kh km : IntKind) (h0 : 0 ≤ l) (h1 : l ≤ h) (h2 : h ≤ m) (h3 : m ≤ (c : Int)) (lo : Option Value) (hlo : (lo = none ∧ l = 0) ∨ ∃ k, lo = some (.int k l)) :
    (Instr.sliceBounds true n c lo (some (.int kh h)) (some (.int km m))).run P w = .ok (l.toNat, h.toNat, m.toNat) w := by
  have b1 : ∀ (y : Nat) (code : BoundsCode) (k : IntKind) (i : Int), 0 ≤ i → i ≤ (y : Int) → (Instr.sliceBound (.int k i) y code).run P w = .ok i.toNat w := fun y code k i g1 g2 => by
    unfold Instr.sliceBound
    simp only [Sem.run_bind, asIntOf]
    show (if 0 ≤ i ∧ i ≤ (y : Int) then pure i.toNat else boundsPanic k i y code : Sem Nat).run P w = _
    rw [if_pos ⟨g1, g2⟩]; rfl
  rcases hlo with ⟨rfl, rfl⟩ | ⟨k, rfl⟩
  · simp only [Instr.sliceBounds, Sem.run_bind, Sem.run_pure, Result.andThen, b1 c _ km m (by omega) h3, b1 m.toNat _ kh h (by omega) (by omega)]
    rfl
  · simp only [Instr.sliceBounds, Sem.run_bind, Sem.run_pure, Result.andThen, b1 c _ km m (by omega) h3, b1 m.toNat _ kh h (by omega) (by omega), b1 h.toNat _ k l h0 (by omega)]
theorem slice3K_ok {β : Type} {P : Program} {o : Oper} {t : TypeId} {x hi mx : Operand} {lo : Option Operand} (hop : o.op = .slice t x lo (some hi) (some mx)) {E : Operand → AV} {H : Nat → Ent} {new : Nat} {K : Eff → Option β} {r : β} (h : slice3K P t E x lo hi mx K = some r) : ∃ e, K e = some r ∧ EffOK P o E H new e := by
  have ops : ∀ (a : Act) (ρ : Ren), (∀ z ∈ o.op.operands, VR ρ (E z) (a.eval z)) → VR ρ (E x) (a.eval x) ∧ (∀ y, lo = some y → VR ρ (E y) (a.eval y)) ∧ VR ρ (E hi) (a.eval hi) ∧ VR ρ (E mx) (a.eval mx) := fun a ρ hE => by
    rw [hop] at hE
    refine ⟨hE x (by simp [Op.operands]), fun y hy => hE y (by subst hy; simp [Op.operands]), hE hi (by simp [Op.operands]), hE mx (by simp [Op.operands])⟩
  unfold slice3K at h
  split at h
  case h_2 => cases h
  rename_i b ofs n cp el hx hu
  split at h
  · cases h
  rename_i ie hie
  split at h
  case h_2 => cases h
  rename_i l hh m hl hh2 hm
  obtain ⟨hb, hK⟩ := ifK_some h
  simp only [Bool.and_eq_true, decide_eq_true_eq] at hb
  obtain ⟨h0, h1, h2, h3⟩ := hb
  refine ⟨_, hK, fun Γ ρ hp w a hI hE hH hn hfree => lstep_of_ok ?_⟩
  obtain ⟨hvx, hvl, hvh, hvm⟩ := ops a ρ hE
  rw [hx] at hvx
  obtain ⟨kh, ekh⟩ := intOfA_some hh2 hvh
  obtain ⟨km, ekm⟩ := intOfA_some hm hvm
  have bnd : ∀ (ad : Option Addr) (c : Nat), n ≤ c → a.eval x = .slice ad n c → (execOp a.eval o).run P w = .ok (.value (.slice (if m.toNat = l.toNat then ad else ad.map (·.add (l.toNat * ie.size))) (hh.toNat - l.toNat) (m.toNat - l.toNat))) w := fun ad c hc hax => by
    have hr := run_bounds3 (P := P) (w := w) n c l hh m kh km h0 h1 h2 (by omega) (lo.map a.eval) (optInt_ok hl hvl)
    simp only [execOp, hop, hax, Option.map_some, ekh, ekm]
    refine run_v ?_
    simp only [Instr.sliceAt, Instr.slice, Sem.run_bind, run_underlying' hu, Result.andThen, hr, run_size hie, Sem.run_pure]
  have mul : (if ie.size = 1 then ofs + l.toNat else ofs + l.toNat * ie.size) = ofs + l.toNat * ie.size := by
    split
    · rename_i hs; rw [hs, Nat.mul_one]
    · rfl
  have e1 : (hh - l).toNat = hh.toNat - l.toNat := by omega
  have e2 : (m - l).toNat = m.toNat - l.toNat := by omega
  rcases hvx.slc_cases with ⟨cb, co, cc, c', k1, k2, k4⟩ | ⟨k1, ad, k4⟩
  · refine .pure hI _ (bnd _ _ k2 k4) ?_ rfl
    rw [e1, mul]
    by_cases hc : m.toNat = l.toNat
    · rw [if_pos hc]
      have z1 : hh.toNat - l.toNat = 0 := by omega
      have z2 : m.toNat - l.toNat = 0 := by omega
      rw [z1, z2]; simp only [VR]
      exact .inr ⟨trivial, _, rfl⟩
    · rw [if_neg hc]; simp only [VR]
      exact .inl ⟨cb, co, cc, m.toNat - l.toNat, k1, by omega, by simp only [Option.map_some, add_lit]; rw [Nat.add_assoc]⟩
  · subst k1
    have z0 : l.toNat = 0 ∧ hh.toNat = 0 ∧ m.toNat = 0 := by omega
    refine .pure hI _ (bnd _ _ (Nat.le_refl _) k4) ?_ rfl
    rw [e1, z0.1, z0.2.1, z0.2.2]; simp only [VR]
    exact .inr ⟨trivial, ad, by simp⟩
def baseK {β : Type} (P : Program) (o : Oper) (E : Operand → AV) (H : Nat → Ent) (new : Nat) (K : Eff → Option β) : Option β :=
  match coreBase P o E H new none none with
  | some e => match e.ob with
    | [] => K e
    | _ => none
  | none => none
theorem baseK_ok {β : Type} {P : Program} {o : Oper} {E : Operand → AV} {H : Nat → Ent} {new : Nat} {K : Eff → Option β} {r : β} (h : baseK P o E H new K = some r) : ∃ e, K e = some r ∧ EffOK P o E H new e := by
  unfold baseK at h
  split at h
  case h_2 => cases h
  rename_i e he
  split at h
  case h_2 => cases h
  rename_i hob
  exact ⟨e, h, fun Γ ρ hp wd act hI hE hH hn hfree => lstep_of_ok (coreBase_ok hI hE he (by rw [hob]; simp) hH hn hfree)⟩
def strB (l : List Int) : ByteArray := l.foldl (fun r n => r.push (UInt8.ofNat n.toNat)) ByteArray.empty
def litB : List AV → Option (List Int)
  | [] => some []
  | .val (.int .u8 n) :: l => (litB l).map (n :: ·)
  | _ => none
def bytesC : Cells → Option (List Int)
  | .arr (.int .u8) l => some l
  | .lit cs => litB cs
  | _ => none
theorem litB_ok {ρ : Ren} : ∀ {cs : List AV} {us : List Value} {l : List Int}, litB cs = some l → VRs ρ cs us → us = l.map (Value.int .u8)
  | [], us, l, h, hv => by
    simp only [litB] at h; injection h with h; subst h
    cases us with
    | nil => rfl
    | cons a b => simp [VRs] at hv
  | a :: cs, us, l, h, hv => by
    unfold litB at h
    split at h
    · rename_i h0; cases h0
    · rename_i n l' he
      injection he with he1 he2; subst he1; subst he2
      simp only [Option.map_eq_some_iff] at h
      obtain ⟨l2, h1, rfl⟩ := h
      cases us with
      | nil => simp [VRs] at hv
      | cons v us =>
        simp only [VRs, VR] at hv
        rw [hv.1, litB_ok h1 hv.2]; rfl
    · cases h
theorem bytesC_ok {ρ : Ren} {c : Cells} {us : List Value} {l : List Int} (hb : bytesC c = some l) (h : CRel ρ c us) : us = l.map (Value.int .u8) := by
  unfold bytesC at hb
  split at hb
  · rename_i l'
    injection hb with hb
    subst hb
    have e : us = Sh.flatl (.int .u8) l' := h
    rw [e]
    simp only [Sh.flatl]
    clear e h
    induction l' with
    | nil => rfl
    | cons a l ih => rw [List.flatMap_cons, ih]; rfl
  · exact litB_ok hb h
  · cases hb
def convK {β : Type} (P : Program) (src dst : TypeId) (x : AV) (H : Nat → Ent) (K : Eff → Option β) (F : Option β) : Option β :=
  match P.underlying src, P.underlying dst with
  | some (.slice e), some .string => (match P.underlying e with
    | some (.int .u8) => (match srcP H 1 x with
      | some (c, _, bs, q) => (match bytesC c with
        | some l => ifK q (K { rb := bs, val := .val (.string (strB l)) })
        | none => none)
      | none => none)
    | _ => none)
  | _, _ => F
theorem convK_ok {β : Type} {P : Program} {o : Oper} {src dst : TypeId} {x : Operand} (hop : o.op = .convert src dst x) {E : Operand → AV} {H : Nat → Ent} {new : Nat} {K : Eff → Option β} {F : Option β} {r : β} (hF : F = some r → ∃ e, K e = some r ∧ EffOK P o E H new e) (h : convK P src dst (E x) H K F = some r) : ∃ e, K e = some r ∧ EffOK P o E H new e := by
  unfold convK at h
  split at h
  case h_2 => exact hF h
  rename_i e hs hd
  split at h
  case h_2 => cases h
  rename_i he
  split at h
  case h_2 => cases h
  rename_i c m bs q hp
  split at h
  case h_2 => cases h
  rename_i l hl
  obtain ⟨hq, hK⟩ := ifK_some h
  refine ⟨_, hK, fun Γ ρ hp' w a hI hE hH hn hfree => lstep_of_ok ?_⟩
  obtain ⟨ad, cp, us, s1, s2, s3, s4, s5⟩ := srcP_ok hI.sim (by decide) (hE x (by simp [hop, Op.operands])) hp hH hq
  have hu := bytesC_ok hl s2
  refine .pure hI (.string (strB l)) ?_ (by simp [VR]) rfl
  simp only [execOp, hop, s1]
  refine run_v ?_
  rw [run_convert_bytes_string w src dst e ad m cp hs he hd]
  cases ad with
  | none =>
    have hm : m = 0 := by
      rcases Nat.eq_zero_or_pos m with h0 | h0
      · exact h0
      · obtain ⟨a2, h1, _⟩ := s5 h0; cases h1
    have hl0 : l = [] := by
      have : l.length = 0 := by rw [hu, List.length_map] at s3; omega
      exact List.eq_nil_of_length_eq_zero this
    rw [hl0]
    simp [Conv.bytesToString, strB, Sem.run_pure]
  | some a2 =>
    have hlen : m = (l.map (Value.int .u8)).length := by rw [← hu]; omega
    refine run_bytesToString w a2 m cp l ?_
    rw [hlen]
    refine run_loadCells_list w a2 _ fun j v hj => ?_
    rcases Nat.eq_zero_or_pos m with h0 | h0
    · rw [List.getElem?_eq_none (by omega)] at hj; cases hj
    · obtain ⟨a3, h1, h2⟩ := s5 h0
      injection h1 with h1; subst h1
      exact h2 j v (by rw [hu]; exact hj)
def callK {β : Type} {P : Program} (env : Env P) (as : Array Operand) (fo : Operand) (E : Operand → AV) (H : Nat → Ent) (new : Nat) (K : Eff → Option β) : Option β :=
  match E fo with
  | .fn (.func f) first cap => match env.find f with
    | some s => s.S H new (first ++ as.toList.map E ++ cap) K
    | none => none
  | .fn (.yield _) [] [] => match env.y with
    | some s => s.S H new (as.toList.map E) K
    | none => none
  | _ => none
theorem callK_ok {β : Type} {P : Program} {env : Env P} {o : Oper} {fo : Operand} {as : Array Operand} {ts : Array TypeId} (hop : o.op = .call { callee := .value fo, args := as, argTypes := ts }) {E : Operand → AV} {H : Nat → Ent} {new : Nat} {K : Eff → Option β} {r : β}
    (h : callK env as fo E H new K = some r) : ∃ e, K e = some r ∧ EffOKY P env.Y o E H new e := by
  unfold callK at h
  split at h
  case h_3 => cases h
  case h_2 =>
    rename_i k hfo
    split at h
    case h_2 => cases h
    rename_i s hs
    obtain ⟨e, hK, hok⟩ := s.ok _ _ _ _ _ h
    refine ⟨e, hK, fun Γ hY ρ hp w a hI hE hH hn hfree => ?_⟩
    have hfoC := hE fo (by simp [hop, Op.operands, Call.operands])
    rw [hfo] at hfoC
    simp only [VR] at hfoC
    obtain ⟨fs, cs, hCf, hfs, hcs⟩ := hfoC
    have hfs0 : fs = #[] := by
      have := hfs.length
      exact Array.eq_empty_of_size_eq_zero (by simpa using this.symm)
    have hcs0 : cs = #[] := by
      have := hcs.length
      exact Array.eq_empty_of_size_eq_zero (by simpa using this.symm)
    subst hfs0; subst hcs0
    have hall : VRs ρ (as.toList.map E) (as.map a.eval).toList := by
      simp only [Array.toList_map]
      exact VRs.map _ fun x hx => hE x (by simp [hop, Op.operands, Call.operands]; exact .inr (by simpa using hx))
    obtain ⟨fn, tmps, asg, body, hrun, hround⟩ := hok Γ (by simpa [Env.Y, YSumm.at_, hs] using hY) ρ hp w _ hI hall hH hn hfree
    intro hnd r K Qc hK
    unfold Oper.wpIn
    refine ⟨fun _ _ => trivial, ?_⟩
    have hex : execOp a.eval o = Instr.yield ρ.base.drawn (as.map a.eval) := by
      simp only [execOp, hop, resolve, hCf, Deferred.ofValue, fnAt]
      show (invoke (.fn (.yield _) #[]) (#[] ++ as.map a.eval)) = _
      simp [invoke]
    rw [Oper.semAt_eq _ _ _ hnd, hex, hrun]
    refine ⟨(fun h => by cases h), ?_⟩
    refine RoundIn.mono (F := frF r) hround fun e w'' hR => ?_
    obtain ⟨ρ', cv, rfl, h1, h2, h3⟩ := hR
    exact hK ρ' w'' cv h1 h2 h3
  rename_i f first cap hfo
  split at h
  case h_2 => cases h
  rename_i s hs
  obtain ⟨e, hK, hok⟩ := s.ok _ _ _ _ _ h
  have hsf := env.find_f f s hs
  refine ⟨e, hK, EffOK.y fun Γ ρ hp w a hI hE hH hn hfree => ?_⟩
  have hfoC := hE fo (by simp [hop, Op.operands, Call.operands])
  rw [hfo] at hfoC
  simp only [VR] at hfoC
  obtain ⟨fs, cs, hCf, hfs, hcs⟩ := hfoC
  have hall : VRs ρ (first ++ as.toList.map E ++ cap) (fs ++ as.map a.eval ++ cs).toList := by
    simp only [Array.toList_append, Array.toList_map]
    exact (hfs.append (VRs.map _ fun x hx => hE x (by simp [hop, Op.operands, Call.operands]; exact .inr (by simpa using hx)))).append hcs
  have hinv := hok Γ ρ hp w _ hI hall hH hn hfree
  rw [hsf] at hinv
  intro hnd r K Qc hK
  unfold Oper.wpIn
  refine ⟨fun _ _ => trivial, ?_⟩
  rw [Oper.semAt_eq _ _ _ hnd, run_callOp hop hCf]
  unfold Invokes at hinv
  generalize hrun : (callFunc f (fs ++ as.map a.eval ++ cs)).run P w = r at hinv
  cases r with
  | halt x w' => exact hinv.elim
  | ok nx w' =>
    cases nx with
    | enter g gs =>
      simp only at hinv
      refine ⟨(fun h => by cases h), callsIn_frF ?_⟩
      refine hinv.mono fun e w'' hR => ?_
      obtain ⟨ρ', cv, rfl, h1, h2, h3⟩ := hR
      exact hK ρ' w'' cv h1 h2 h3
    | value v =>
      simp only at hinv
      obtain ⟨ρ', cv, hv0, h1, h2, h3⟩ := hinv
      injection hv0 with hv0; subst hv0
      exact hK ρ' w' v h1 h2 h3
    | _ => exact hinv.elim
def ifaceK {β : Type} (P : Program) (t : TypeId) (v : AV) (K : Eff → Option β) : Option β :=
  match P.underlying t with
  | some (.interface _) => none
  | some _ => K { val := .ifc t v }
  | none => none
theorem ifaceK_ok {β : Type} {P : Program} {o : Oper} {t : TypeId} {x : Operand} (hop : o.op = .makeInterface t x) {E : Operand → AV} {H : Nat → Ent} {new : Nat} {K : Eff → Option β} {r : β} (h : ifaceK P t (E x) K = some r) : ∃ e, K e = some r ∧ EffOK P o E H new e := by
  unfold ifaceK at h
  split at h
  · cases h
  · rename_i d hni hd
    refine ⟨_, h, fun Γ ρ hp wd act hI hE hH hn hfree => lstep_of_ok ?_⟩
    have hv := hE x (by simp [hop, Op.operands])
    refine .pure hI (.iface t (act.eval x)) ?_ ?_ rfl
    · simp only [execOp, hop]
      refine run_v ?_
      simp only [Instr.makeInterface, Sem.run_bind, run_underlying' hd, Result.andThen]
      rfl
    · simp only [VR]; exact ⟨_, rfl, hv⟩
  · cases h
def makeK {β : Type} (P : Program) (t : TypeId) (a c : AV) (new : Nat) (K : Eff → Option β) : Option β :=
  match P.underlying t with
  | some (.slice el) => (match P.info? el with
    | none => none
    | some ie => (match ie.zero with
      | none => none
      | some z => (match shOf P 6 el with
        | none => none
        | some s => (match a, c with
          | .val (.int _ l), .val (.int _ n) => if l = 0 ∧ 0 < ie.size then ifK (decide (0 ≤ n) && (decide (n.toNat * ie.bytes ≤ 140737488355328) && decide (n ≤ 4611686018427387904))) (K { wb := [(new, .live { cells := .arr s [], rw := true, grow := some ie.size })], nw := 1, val := .slc new 0 0 .unk }) else none
          | _, _ => none))))
  | _ => none
theorem makeK_ok {β : Type} {P : Program} {o : Oper} {t : TypeId} {x y : Operand} (hop : o.op = .makeSlice t x y) {E : Operand → AV} {H : Nat → Ent} {new : Nat} {K : Eff → Option β} {r : β} (h : makeK P t (E x) (E y) new K = some r) : ∃ e, K e = some r ∧ EffOK P o E H new e := by
  unfold makeK at h
  split at h
  case h_2 => cases h
  rename_i el hu
  split at h
  · cases h
  rename_i ie hi
  split at h
  · cases h
  rename_i z hz
  split at h
  · cases h
  rename_i s hs
  split at h
  case h_2 => cases h
  rename_i k1 l k2 n hx hy
  split at h
  case isFalse => cases h
  rename_i hc
  obtain ⟨rfl, hsz⟩ := hc
  obtain ⟨hcond, h⟩ := ifK_some h
  simp only [Bool.and_eq_true, decide_eq_true_eq] at hcond
  obtain ⟨c1, c2, c3⟩ := hcond
  refine ⟨_, h, fun Γ ρ hp w act hI hE hH hn hfree => lstep_of_ok ?_⟩
  have vx := hE x (by simp [hop, Op.operands])
  have vy := hE y (by simp [hop, Op.operands])
  rw [hx] at vx
  rw [hy] at vy
  simp only [VR] at vx vy
  obtain ⟨N, rfl⟩ := Int.eq_ofNat_of_zero_le c1
  have hN : (N : Int).toNat = N := by simp
  rw [hN] at c2
  have hprod : ie.bytes * N = N * ie.bytes := Nat.mul_comm _ _
  have w1 : IntKind.i64.wrap (N : Int) = N := by simp [IntKind.wrap, IntKind.bits, IntKind.signed]; omega
  have w0 : IntKind.i64.wrap 0 = 0 := by decide
  have hinfo : (typeInfo el).run P w = .ok ie w := by simp [typeInfo, hi, Result.andThen]
  let cs : Array Value := (Array.range (N * ie.size)).map ((if N * ie.size = 0 then #[] else z.cells)[· % (if N * ie.size = 0 then #[] else z.cells).size]!)
  have hcs : cs.size = N * ie.size := by simp [cs]
  have hr : (Instr.makeSlice t (act.eval x) (act.eval y)).run P w = .ok (.slice (some ⟨w.heap.size, 0, none⟩) 0 N) { w with heap := w.heap.push (.cells cs el (0, 0)) } := by
    rw [vx, vy]
    have e1 : ¬ (281474976710656 : Int) < (ie.bytes : Int) * (N : Int) := by
      have e2 : ((ie.bytes * N : Nat) : Int) = (ie.bytes : Int) * (N : Int) := by push_cast; rfl
      rw [← e2, hprod]
      omega
    have e3 : ¬ (N : Int) < 0 := by omega
    have hA : ∀ (k : IntKind) (v : Int) (w : World), (asInt (.int k v)).run P w = .ok v w := fun _ _ _ => rfl
    simp only [Instr.makeSlice, Sem.run_bind, run_underlying' hu, Result.andThen, hA, Sem.run_pure, hinfo, w1, w0]
    by_cases hz0 : N * ie.size = 0
    · simp [e1, e3, hz0, run_size hi, run_newRow, Result.andThen, cs]
    · simp [e1, e3, hz0, run_size hi, run_zero hi hz, run_newRow, Result.andThen, cs]
  obtain ⟨g1, g2⟩ := hI.alloc (w' := { w with heap := w.heap.push (.cells cs el (0, 0)) }) hn (hfree new (Nat.le_refl _) (by simp)) cs el (.arr s []) (some ie.size) N rfl rfl rfl rfl (fun i v hv => by simp [Sh.flatl] at hv) (by simp [Cells.len, Sh.flatl]) (fun sz hsz2 => by injection hsz2 with hsz2; rw [hcs, hsz2])
  refine ⟨_, .value (.slice (some ⟨w.heap.size, 0, none⟩) 0 N), .slice (some ⟨w.heap.size, 0, none⟩) 0 N, { w with heap := w.heap.push (.cells cs el (0, 0)) }, ?_, .inl rfl, g1, ?_, g2⟩
  · simp only [execOp, hop]
    exact run_v hr
  · simp only [VR]
    exact .inl ⟨w.heap.size, 0, N, N, by simp [Ren.put], Nat.zero_le _, ⟨rfl, rfl⟩, rfl⟩
theorem flatl_split {s : Sh} {l : List s.T} {k : Nat} {y : s.T} (hk : l[k]? = some y) : s.flatl l = s.flatl (l.take k) ++ (s.enc y ++ s.flatl (l.drop (k + 1))) := by
  have h1 : l = l.take k ++ y :: l.drop (k + 1) := by
    obtain ⟨hlt, he⟩ := List.getElem?_eq_some_iff.1 hk
    rw [← he, List.getElem_cons_drop, List.take_append_drop]
  conv => lhs; rw [h1]
  simp [Sh.flatl]
theorem flatl_set {s : Sh} {l : List s.T} {k : Nat} {y y' : s.T} (hk : l[k]? = some y) : s.flatl (l.set k y') = s.flatl (l.take k) ++ (s.enc y' ++ s.flatl (l.drop (k + 1))) := by
  obtain ⟨hlt, he⟩ := List.getElem?_eq_some_iff.1 hk
  rw [List.set_eq_take_append_cons_drop, if_pos hlt]
  simp [Sh.flatl]
theorem plains_map : ∀ (us : List Value), AV.plains? (us.map .val) = some us
  | [] => by simp [AV.plains?]
  | v :: us => by simp [AV.plains?, AV.plain?, plains_map us]
def eltStoreK {β : Type} (P : Program) (t : TypeId) (b o i w f : Nat) (H : Nat → Ent) (a : AV) (K : Eff → Option β) : Option β :=
  match H b with
  | .live blk => match blk.cells with
    | .arr s l => if (s.flat = true ∧ s.w = w) ∧ blk.rw = true then (match eltAt w o i with
      | none => none
      | some k => (l[k]?).bind fun y => match a.asCells, P.info? t with
        | some vs, some i' => if (vs.length = i'.size ∧ vs.all AV.one = true) ∧ (0 < vs.length ∧ f + vs.length ≤ w) then (match s.dec (setRange ((s.enc y).map .val) f vs) with
            | some (y', []) => K { rb := [b], wb := [(b, .live { blk with cells := .arr s (l.set k y') })], val := .val undef }
            | _ => none) else none
        | _, _ => none) else none
    | _ => none
  | _ => none
theorem eltStoreK_ok {β : Type} {P : Program} {o : Oper} {t : TypeId} {x z : Operand} (hop : o.op = .store t x z) {E : Operand → AV} {b ofs i w f : Nat} (hx : E x = .elt b ofs i w f) {H : Nat → Ent} {new : Nat} {K : Eff → Option β} {r : β} (h : eltStoreK P t b ofs i w f H (E z) K = some r) : ∃ e, K e = some r ∧ EffOK P o E H new e := by
  unfold eltStoreK at h
  split at h
  case h_2 => cases h
  rename_i blk hblk
  split at h
  case h_2 => cases h
  rename_i s l hcells
  split at h
  case isFalse => cases h
  rename_i hs
  obtain ⟨⟨hf, hw⟩, hrw⟩ := hs
  split at h
  · cases h
  rename_i k hk
  rw [Option.bind_eq_some_iff] at h
  obtain ⟨y, hy, h⟩ := h
  split at h
  case h_2 => cases h
  rename_i vs i' hvs hi'
  split at h
  case isFalse => cases h
  rename_i hc
  obtain ⟨⟨c1, c2⟩, c3, c4⟩ := hc
  split at h
  case h_2 => cases h
  rename_i y' hdec
  refine ⟨_, h, fun Γ ρ hp wd act hI hE hH hn hfree => lstep_of_ok ?_⟩
  obtain ⟨_, hdec2⟩ := dec_ok _ _ _ _ hdec
  rw [List.append_nil] at hdec2
  obtain ⟨hk1, hk2⟩ := eltAt_some hk
  subst hw
  have hly : (s.enc y).length = s.w := enc_length s y hf
  -- the new part's cells
  let us := ((s.enc y').drop f).take vs.length
  have hvu : vs = us.map .val := by
    have h1 := congrArg (fun q => (q.drop f).take vs.length) hdec2
    simp only [setRange] at h1
    have hlf : (((s.enc y).map AV.val).take f).length = f := by simp; omega
    rw [List.append_assoc, List.drop_left' hlf, List.take_left' rfl] at h1
    rw [h1, ← List.map_drop, ← List.map_take]
  have hey : s.enc y' = (s.enc y).take f ++ us ++ (s.enc y).drop (f + us.length) := by
    have hl : us.length = vs.length := by rw [hvu]; simp
    have h2 : (s.enc y').map AV.val = ((s.enc y).take f ++ us ++ (s.enc y).drop (f + us.length)).map AV.val := by
      rw [← hdec2, setRange, List.map_append, List.map_append, ← hvu, List.map_take, List.map_drop, hl]
    have inj : ∀ (a b : List Value), a.map AV.val = b.map AV.val → a = b := by
      intro a
      induction a with
      | nil => intro b hb; cases b with
        | nil => rfl
        | cons => simp at hb
      | cons x a ih => intro b hb; cases b with
        | nil => simp at hb
        | cons z b =>
          simp only [List.map_cons, List.cons.injEq] at hb
          obtain ⟨q1, q2⟩ := hb
          injection q1 with q1
          rw [q1, ih b q2]
    exact inj _ _ h2
  have hb : hp.get b = .live blk := by rw [hH b (by simp)]; exact hblk
  have hI0 := hI.recell hb (.sym (s.flatl l)) (by rw [hcells]; exact Nat.le_refl _) (fun c hc => by have := hI.sim.cells b blk c hb hc; rw [hcells] at this; exact this)
  have hv := hE x (by simp [hop, Op.operands])
  rw [hx] at hv
  have hv' : VR ρ (.ptr b (k * s.w + f)) (act.eval x) := by
    simp only [VR] at hv ⊢
    obtain ⟨cb, co, cc, h1, h2⟩ := hv
    exact ⟨cb, co, cc, h1, by rw [h2]; congr 3; omega⟩
  have hz := hE z (by simp [hop, Op.operands])
  have hklt : k < l.length := (List.getElem?_eq_some_iff.1 hy).1
  have hlu : us.length = vs.length := by rw [hvu]; simp
  have hfl : (s.flatl l).length = l.length * s.w := flatl_length s hf l
  have hle : k * s.w + f + us.length ≤ (s.flatl l).length := by
    rw [hfl]
    have := Nat.mul_le_mul_right s.w (show k + 1 ≤ l.length from hklt)
    rw [Nat.add_mul] at this; omega
  have hg0 : (hp.upd b (.live { blk with cells := .sym (s.flatl l) })).get b = .live { blk with cells := .sym (s.flatl l) } := by rw [Heap.get_upd, if_pos rfl]
  have hplain : AV.plains? vs = some us := by rw [hvu]; exact plains_map us
  obtain ⟨ρ', nx, cv, w', g1, g2, g3, g4, g5⟩ := coreStore_ok (P := P) (t := t) hI0 hv' hz (pf := some ⟨_, hle⟩) (e := { rb := [b], wb := [(b, .live { blk with cells := .sym ((s.flatl l).take (k * s.w + f) ++ us ++ (s.flatl l).drop (k * s.w + f + us.length)) })], val := .val undef, ob := [.prop (k * s.w + f + us.length ≤ (s.flatl l).length) (k * s.w + f + us.length ≤ (s.flatl l).length)] })
    (by rw [hg0]; simp only [coreStore, hrw, hvs, hi', Option.bind_some, if_true, if_pos (show vs.length = i'.size ∧ vs.all AV.one = true ∧ 0 < vs.length from ⟨c1, c2, c3⟩), hplain, Option.map_some]) (fun p hp => by rw [List.mem_singleton.1 hp]; rfl)
  have hA : (s.flatl (l.take k)).length = k * s.w := by rw [flatl_length s hf, List.length_take]; congr 1; omega
  have hlist : (s.flatl l).take (k * s.w + f) ++ us ++ (s.flatl l).drop (k * s.w + f + us.length) = s.flatl (l.set k y') := by
    rw [flatl_set hy, flatl_split hy, hey]
    rw [← hA, List.take_length_add_append, Nat.add_assoc, List.drop_length_add_append]
    rw [List.take_append_of_le_length (by omega), List.drop_append_of_le_length (by omega)]
    simp
  rw [hlist] at g5
  have hg1 : ((hp.upd b (.live { blk with cells := .sym (s.flatl l) })).upds [(b, .live { blk with cells := .sym (s.flatl (l.set k y')) })]).get b = .live { blk with cells := .sym (s.flatl (l.set k y')) } := by
    simp only [Heap.upds]; rw [Heap.get_upd, if_pos rfl]
  have hI2 := g5.recell hg1 (.arr s (l.set k y')) (by show (s.flatl _).length ≤ (s.flatl _).length; exact Nat.le_refl _) (fun c hc => g5.sim.cells b _ c hg1 hc)
  refine ⟨ρ', nx, cv, w', by simpa only [execOp, hop] using g1, g2, g3, g4, hI2.congr fun q => ?_⟩
  simp only [Heap.upds, Heap.get_upd]
  by_cases hq : q = b
  · simp [hq]
  · simp [hq]
theorem flatl_replicate {s : Sh} (hf : s.flat = true) (hw : 0 < s.w) (z : s.T) : ∀ (N i : Nat) (v : Value), (s.flatl (List.replicate N z))[i]? = some v → i < N * s.w ∧ (s.enc z)[i % s.w]? = some v
  | 0, i, v, h => by simp [Sh.flatl] at h
  | N + 1, i, v, h => by
    have e : s.flatl (List.replicate (N + 1) z) = s.enc z ++ s.flatl (List.replicate N z) := by simp [Sh.flatl, List.replicate_succ]
    have hl := enc_length s z hf
    rw [e, List.getElem?_append] at h
    rw [Nat.add_mul]
    split at h
    · rename_i hlt
      rw [hl] at hlt
      rw [Nat.mod_eq_of_lt hlt]
      exact ⟨by omega, h⟩
    · rename_i hge
      rw [hl] at hge h
      obtain ⟨h1, h2⟩ := flatl_replicate hf hw z N _ v h
      refine ⟨by omega, ?_⟩
      rw [Nat.mod_eq_sub_mod (by omega)]; exact h2
def makeNK {β : Type} (P : Program) (t : TypeId) (a : AV) (new : Nat) (K : Eff → Option β) : Option β :=
  match P.underlying t with
  | some (.slice el) => (match P.info? el with
    | none => none
    | some ie => (match ie.zero with
      | none => none
      | some z => (match shOf P 6 el with
        | none => none
        | some s => (match a with
          | .val (.int _ n) => (match s.dec (z.cells.toList.map .val) with
            | some (y, []) => if ie.size = s.w ∧ 0 < ie.size then ifK (decide (0 ≤ n) && (decide (n.toNat * ie.bytes ≤ 140737488355328) && decide (n ≤ 4611686018427387904))) (K { wb := [(new, .live { cells := .arr s (List.replicate n.toNat y), rw := true, grow := some ie.size })], nw := 1, val := .slc new 0 n.toNat .unk }) else none
            | _ => none)
          | _ => none))))
  | _ => none
theorem makeNK_ok {β : Type} {P : Program} {o : Oper} {t : TypeId} {x : Operand} (hop : o.op = .makeSlice t x x) {E : Operand → AV} {H : Nat → Ent} {new : Nat} {K : Eff → Option β} {r : β} (h : makeNK P t (E x) new K = some r) : ∃ e, K e = some r ∧ EffOK P o E H new e := by
  unfold makeNK at h
  split at h
  case h_2 => cases h
  rename_i el hu
  split at h
  · cases h
  rename_i ie hi
  split at h
  · cases h
  rename_i z hz
  split at h
  · cases h
  rename_i s hs
  split at h
  case h_2 => cases h
  rename_i k2 n hx
  split at h
  case h_2 => cases h
  rename_i y hdec
  split at h
  case isFalse => cases h
  rename_i hc
  obtain ⟨hsw, hsz⟩ := hc
  obtain ⟨hf, hdec⟩ := dec_ok _ _ _ _ hdec
  have hzc : z.cells.toList = s.enc y := by
    rw [List.append_nil] at hdec
    have inj : ∀ (a b : List Value), a.map AV.val = b.map AV.val → a = b := by
      intro a
      induction a with
      | nil => intro b hb; cases b with
        | nil => rfl
        | cons => simp at hb
      | cons x a ih => intro b hb; cases b with
        | nil => simp at hb
        | cons z b =>
          simp only [List.map_cons, List.cons.injEq] at hb
          obtain ⟨q1, q2⟩ := hb
          injection q1 with q1
          rw [q1, ih b q2]
    exact inj _ _ hdec
  obtain ⟨hcond, h⟩ := ifK_some h
  simp only [Bool.and_eq_true, decide_eq_true_eq] at hcond
  obtain ⟨c1, c2, c3⟩ := hcond
  refine ⟨_, h, fun Γ ρ hp w act hI hE hH hn hfree => lstep_of_ok ?_⟩
  have vx := hE x (by simp [hop, Op.operands])
  rw [hx] at vx
  simp only [VR] at vx
  obtain ⟨N, rfl⟩ := Int.eq_ofNat_of_zero_le c1
  have hN : (N : Int).toNat = N := by simp
  rw [hN] at c2
  have hprod : ie.bytes * N = N * ie.bytes := Nat.mul_comm _ _
  have w1 : IntKind.i64.wrap (N : Int) = N := by simp [IntKind.wrap, IntKind.bits, IntKind.signed]; omega
  have hinfo : (typeInfo el).run P w = .ok ie w := by simp [typeInfo, hi, Result.andThen]
  let cs : Array Value := (Array.range (N * ie.size)).map ((if N * ie.size = 0 then #[] else z.cells)[· % (if N * ie.size = 0 then #[] else z.cells).size]!)
  have hcs : cs.size = N * ie.size := by simp [cs]
  have hr : (Instr.makeSlice t (act.eval x) (act.eval x)).run P w = .ok (.slice (some ⟨w.heap.size, 0, none⟩) N N) { w with heap := w.heap.push (.cells cs el (0, 0)) } := by
    rw [vx]
    have e1 : ¬ (281474976710656 : Int) < (ie.bytes : Int) * (N : Int) := by
      have e2 : ((ie.bytes * N : Nat) : Int) = (ie.bytes : Int) * (N : Int) := by push_cast; rfl
      rw [← e2, hprod]
      omega
    have e3 : ¬ (N : Int) < 0 := by omega
    have hA : ∀ (k : IntKind) (v : Int) (w : World), (asInt (.int k v)).run P w = .ok v w := fun _ _ _ => rfl
    simp only [Instr.makeSlice, Sem.run_bind, run_underlying' hu, Result.andThen, hA, Sem.run_pure, hinfo, w1]
    by_cases hz0 : N * ie.size = 0
    · simp [e1, e3, hz0, run_size hi, run_newRow, Result.andThen, cs]
    · simp [e1, e3, hz0, run_size hi, run_zero hi hz, run_newRow, Result.andThen, cs]
  have hcell : ∀ (i : Nat) (v : Value), (s.flatl (List.replicate N y))[i]? = some v → ({ w with heap := w.heap.push (.cells cs el (0, 0)) } : World).cell? ⟨w.heap.size, 0 + i, none⟩ = some v := by
    intro i v hv
    obtain ⟨q1, q2⟩ := flatl_replicate hf (by omega) y N i v hv
    have q3 : N * ie.size ≠ 0 := by rw [hsw]; omega
    have q4 : z.cells.size = s.w := by rw [← Array.length_toList, hzc, enc_length s y hf]
    have q5 : cs[i]? = some v := by
      simp only [cs, if_neg q3, Array.getElem?_map]
      rw [Array.getElem?_range, if_pos (by rw [hsw]; exact q1)]
      simp only [Option.map_some, q4]
      rw [← hzc, Array.getElem?_toList] at q2
      rw [getElem!_def, q2]
    simp only [World.cell?, Nat.zero_add, Array.getElem?_push_size, Option.isSome_none]
    simpa using q5
  obtain ⟨g1, g2⟩ := hI.alloc (w' := { w with heap := w.heap.push (.cells cs el (0, 0)) }) hn (hfree new (Nat.le_refl _) (by simp)) cs el (.arr s (List.replicate N y)) (some ie.size) N rfl rfl rfl rfl (fun i v hv => hcell i v hv) (by show (s.flatl _).length ≤ _; rw [flatl_length s hf, List.length_replicate, hcs, hsw]; exact Nat.le_refl _) (fun sz hsz2 => by injection hsz2 with hsz2; rw [hcs, hsz2])
  refine ⟨_, .value (.slice (some ⟨w.heap.size, 0, none⟩) N N), .slice (some ⟨w.heap.size, 0, none⟩) N N, { w with heap := w.heap.push (.cells cs el (0, 0)) }, ?_, .inl rfl, g1, ?_, g2⟩
  · simp only [execOp, hop]
    exact run_v hr
  · simp only [VR]
    exact .inl ⟨w.heap.size, 0, N, N, by simp [Ren.put], Nat.le_refl _, ⟨rfl, rfl⟩, rfl⟩
def emptyK {β : Type} (P : Program) (t : TypeId) (new : Nat) (K : Eff → Option β) : Option β :=
  match P.underlying t with
  | some (.slice el) => (match P.info? el with
    | none => none
    | some ie => (match shOf P 6 el with
      | none => none
      | some s => if 0 < ie.size then K { wb := [(new, .live { cells := .arr s [], rw := true, grow := some ie.size })], nw := 1, val := .slc new 0 0 .unk } else none))
  | _ => none
theorem emptyK_ok {β : Type} {P : Program} {o : Oper} {t : TypeId} (hop : o.op = .buildSlice t 0 #[]) {E : Operand → AV} {H : Nat → Ent} {new : Nat} {K : Eff → Option β} {r : β} (h : emptyK P t new K = some r) : ∃ e, K e = some r ∧ EffOK P o E H new e := by
  unfold emptyK at h
  split at h
  case h_2 => cases h
  rename_i el hu
  split at h
  · cases h
  rename_i ie hi
  split at h
  · cases h
  rename_i s hs
  split at h
  case isFalse => cases h
  rename_i hsz
  refine ⟨_, h, fun Γ ρ hp w act hI hE hH hn hfree => lstep_of_ok ?_⟩
  have hr : (Instr.buildSlice t 0 #[]).run P w = .ok (.slice (some ⟨w.heap.size, 0, none⟩) 0 0) { w with heap := w.heap.push (.cells #[] el (0, 0)) } := by
    simp [Instr.buildSlice, Sem.run_bind, run_underlying' hu, Result.andThen, run_size hi, run_newRow, Sem.run_pure, Instr.fill]
    rw [show Array.range 0 = #[] from rfl, Array.map_empty]
  obtain ⟨g1, g2⟩ := hI.alloc (w' := { w with heap := w.heap.push (.cells #[] el (0, 0)) }) hn (hfree new (Nat.le_refl _) (by simp)) #[] el (.arr s []) (some ie.size) 0 rfl rfl rfl rfl (fun i v hv => by simp [Sh.flatl] at hv) (by simp [Cells.len, Sh.flatl]) (fun sz hsz2 => by simp)
  refine ⟨_, .value (.slice (some ⟨w.heap.size, 0, none⟩) 0 0), .slice (some ⟨w.heap.size, 0, none⟩) 0 0, { w with heap := w.heap.push (.cells #[] el (0, 0)) }, ?_, .inl rfl, g1, ?_, g2⟩
  · simp only [execOp, hop]
    refine run_v ?_
    rw [Array.map_empty]
    exact hr
  · simp only [VR]
    exact .inl ⟨w.heap.size, 0, 0, 0, by simp [Ren.put], Nat.zero_le _, ⟨rfl, rfl⟩, rfl⟩
def partV (P : Program) (t : TypeId) (cs : Array Value) (off : Nat) : Option Value :=
  match P.underlying t with
  | some (.struct _) => (P.info? t).map fun i => .agg ⟨(cs.toList.drop off).take i.size⟩
  | some (.array _ _) => (P.info? t).map fun i => .agg ⟨(cs.toList.drop off).take i.size⟩
  | some (.int _) => cs.toList[off]?
  | some .bool => cs.toList[off]?
  | _ => none
def eqL {α : Type} (f : α → Option Bool) : List α → Option Bool
  | [] => some true
  | a :: l => (f a).bind fun r => (eqL f l).map fun q => r && q
def eqV (P : Program) : Nat → TypeId → Value → Value → Option Bool
  | 0, _, _, _ => none
  | d + 1, t, x, y => match P.underlying t, x, y with
    | some (.int _), .int k a, .int k' b => if k = k' then some (a == b) else none
    | some .bool, .bool a, .bool b => some (a == b)
    | some (.struct fs), .agg xs, .agg ys => if P.stoodInHeld t = true then none else eqL (fun f => if f.name ≠ "_" then (partV P f.type xs f.offset).bind fun a => (partV P f.type ys f.offset).bind fun b => eqV P d f.type a b else some true) fs.toList
    | some (.array n e), .agg xs, .agg ys => (P.info? e).bind fun i => eqL (fun j => (partV P e xs (j * i.size)).bind fun a => (partV P e ys (j * i.size)).bind fun b => eqV P d e a b) (List.range n)
    | _, _, _ => none
theorem partV_run {P : Program} {t : TypeId} {cs : Array Value} {off : Nat} {v : Value} (h : partV P t cs off = some v) (w : World) : (part t cs off).run P w = .ok v w := by
  unfold partV at h
  have ext : ∀ n, cs.extract off (off + n) = ⟨(cs.toList.drop off).take n⟩ := fun n => by
    apply Array.toList_inj.1
    simp
  split at h
  · rename_i fs hu
    simp only [Option.map_eq_some_iff] at h
    obtain ⟨i, hi, rfl⟩ := h
    simp [part, isAgg, run_underlying' hu, run_size hi, Result.andThen, ext]
  · rename_i n e hu
    simp only [Option.map_eq_some_iff] at h
    obtain ⟨i, hi, rfl⟩ := h
    simp [part, isAgg, run_underlying' hu, run_size hi, Result.andThen, ext]
  · rename_i k hu
    have h' : cs[off]? = some v := by simpa using h
    simp [part, isAgg, run_underlying' hu, Result.andThen, h']
  · rename_i hu
    have h' : cs[off]? = some v := by simpa using h
    simp [part, isAgg, run_underlying' hu, Result.andThen, h']
  · cases h
theorem eqFields_run {P : Program} {d : Nat} {xs ys : Array Value} (ih : ∀ (t : TypeId) (x y : Value) (r : Bool), eqV P d t x y = some r → ∀ w, (Op.equalIn d t x y).run P w = .ok r w) (w : World) : ∀ (fs : List Field) (r : Bool), eqL (fun f : Field => if f.name ≠ "_" then (partV P f.type xs f.offset).bind fun a => (partV P f.type ys f.offset).bind fun b => eqV P d f.type a b else some true) fs = some r → (Op.eqFields d xs ys fs).run P w = .ok r w
  | [], r, h => by simp [eqL] at h; subst h; rfl
  | f :: fs, r, h => by
    simp only [eqL, Option.bind_eq_some_iff, Option.map_eq_some_iff] at h
    obtain ⟨b, hb, q, hq, rfl⟩ := h
    have ihf := eqFields_run ih w fs q hq
    simp only [Op.eqFields, Sem.run_ite]
    split at hb
    · rename_i hn
      rw [if_pos hn]
      simp only [Option.bind_eq_some_iff] at hb
      obtain ⟨u, hu, v, hv, hb⟩ := hb
      simp only [Sem.run_bind, partV_run hu, partV_run hv, ih _ _ _ _ hb, Result.andThen, Sem.run_ite]
      cases b
      · simp [Sem.run_pure]
      · simpa [Sem.run_pure] using ihf
    · rename_i hn
      rw [if_neg hn]
      injection hb with hb
      subst hb
      simpa using ihf
theorem eqArr_run {P : Program} {d : Nat} {e : TypeId} {sz : Nat} {xs ys : Array Value} (ih : ∀ (t : TypeId) (x y : Value) (r : Bool), eqV P d t x y = some r → ∀ w, (Op.equalIn d t x y).run P w = .ok r w) (w : World) : ∀ (l : List Nat) (q : Bool), eqL (fun j => (partV P e xs (j * sz)).bind fun a => (partV P e ys (j * sz)).bind fun b => eqV P d e a b) l = some q →
    Sem.run P (forIn l ((none, ()) : Option Bool × Unit) fun i _ => do
      let a ← part e xs (i * sz)
      let b ← part e ys (i * sz)
      let c ← Op.equalIn d e a b
      if (!c) = true then pure (ForInStep.done (some false, ())) else pure (ForInStep.yield (none, ()))) w = .ok (if q = true then (none, ()) else (some false, ())) w
  | [], q, h => by simp [eqL] at h; subst h; rfl
  | j :: l, q, h => by
    simp only [eqL, Option.bind_eq_some_iff, Option.map_eq_some_iff] at h
    obtain ⟨b, ⟨u, hu, v, hv, hb⟩, q', hq, rfl⟩ := h
    have ihl := eqArr_run ih w l q' hq
    simp only [List.forIn_cons, Sem.run_bind, partV_run hu, partV_run hv, ih _ _ _ _ hb, Result.andThen]
    cases b
    · simp [Sem.run_pure]
    · simpa [Sem.run_pure, Result.andThen] using ihl
theorem eqV_run {P : Program} : ∀ (d : Nat) (t : TypeId) (x y : Value) (r : Bool), eqV P d t x y = some r → ∀ w, (Op.equalIn d t x y).run P w = .ok r w
  | 0, _, _, _, _, h, _ => by simp [eqV] at h
  | d + 1, t, x, y, r, h, w => by
    unfold eqV at h
    split at h
    · rename_i k0 k a k' b hu
      split at h
      case isFalse => cases h
      rename_i hk
      subst hk
      injection h with h; subst h
      exact run_equalIn_int w d t k k0 a b hu
    · rename_i a b hu
      injection h with h; subst h
      exact run_equalIn_bool' w d t a b hu
    · rename_i fs xs ys hu
      split at h
      · cases h
      rename_i hp
      have hf : P.fieldsOf t = fs := by simp [Program.fieldsOf, hu]
      rw [run_equalIn_agg w d t xs ys (by rw [hf]; exact hu) (by simpa using hp), hf]
      exact eqFields_run (eqV_run d) w fs.toList r h
    · rename_i n e xs ys hu
      simp only [Option.bind_eq_some_iff] at h
      obtain ⟨i, hi, h⟩ := h
      simp only [Op.equalIn, Sem.run_bind, run_underlying' hu, Result.andThen_ok, run_size hi]
      rw [Std.Legacy.Range.forIn_eq_forIn_range']
      have hr : List.range' ([:n] : Std.Legacy.Range).start ([:n] : Std.Legacy.Range).size ([:n] : Std.Legacy.Range).step = List.range n := by
        rw [List.range_eq_range']; simp [Std.Legacy.Range.size]
      rw [hr]
      have := eqArr_run (eqV_run d) w (List.range n) r h
      rw [this]
      cases r <;> rfl
    · cases h
def valsOf : List AV → Option (List Value)
  | [] => some []
  | .val v :: l => (valsOf l).map (v :: ·)
  | _ => none
theorem valsOf_ok {ρ : Ren} : ∀ {as : List AV} {vs us : List Value}, valsOf as = some vs → VRs ρ as us → us = vs
  | [], vs, us, h, hv => by
    simp [valsOf] at h; subst h
    match us, hv with
    | [], _ => rfl
    | _ :: _, hv => simp [VRs] at hv
  | a :: as, vs, us, h, hv => by
    match us, hv with
    | [], hv => simp [VRs] at hv
    | u :: us, hv =>
      simp only [VRs] at hv
      cases a with
      | val v =>
        simp only [valsOf, Option.map_eq_some_iff] at h
        obtain ⟨l, hl, rfl⟩ := h
        have h1 : u = v := hv.1
        rw [h1, valsOf_ok hl hv.2]
      | _ => simp [valsOf] at h
def eqK {β : Type} (P : Program) (op : BinOp) (t : TypeId) (a b : AV) (K : Eff → Option β) (base : Option β) : Option β :=
  match op, a, b with
  | .eql, .agg xs, .agg ys => (match valsOf xs, valsOf ys with
    | some us, some vs => if P.eqGuardType P.depth t = true then base else (match eqV P 10000 t (.agg ⟨us⟩) (.agg ⟨vs⟩) with
      | some r => K { val := .val (.bool r) }
      | none => base)
    | _, _ => base)
  | .neq, .agg xs, .agg ys => (match valsOf xs, valsOf ys with
    | some us, some vs => if P.eqGuardType P.depth t = true then base else (match eqV P 10000 t (.agg ⟨us⟩) (.agg ⟨vs⟩) with
      | some r => K { val := .val (.bool (!r)) }
      | none => base)
    | _, _ => base)
  | _, _, _ => base
theorem eqK_ok {β : Type} {P : Program} {o : Oper} {op : BinOp} {t yt : TypeId} {x y : Operand} (hop : o.op = .binOp op t x y yt) {E : Operand → AV} {H : Nat → Ent} {new : Nat} {K : Eff → Option β} {base : Option β} {r : β}
    (hbase : base = some r → ∃ e, K e = some r ∧ EffOK P o E H new e) (h : eqK P op t (E x) (E y) K base = some r) : ∃ e, K e = some r ∧ EffOK P o E H new e := by
  have fin : ∀ (xs ys : List AV) (us vs : List Value) (q : Bool), E x = .agg xs → E y = .agg ys → valsOf xs = some us → valsOf ys = some vs → P.eqGuardType P.depth t = false → eqV P 10000 t (.agg ⟨us⟩) (.agg ⟨vs⟩) = some q → ∀ q' : Bool, (op = .eql ∧ q' = q ∨ op = .neq ∧ q' = !q) → EffOK P o E H new { val := .val (.bool q') } := by
    intro xs ys us vs q hx hy h1 h2 hg hq q' hq' Γ ρ hp wd act hI hE _ _ _
    refine lstep_of_ok ?_
    have vx := hE x (by simp [hop, Op.operands])
    have vy := hE y (by simp [hop, Op.operands])
    rw [hx] at vx
    rw [hy] at vy
    simp only [VR] at vx vy
    obtain ⟨cx, ex, vx⟩ := vx
    obtain ⟨cy, ey, vy⟩ := vy
    have cx' : cx = ⟨us⟩ := Array.toList_inj.1 (valsOf_ok h1 vx)
    have cy' : cy = ⟨vs⟩ := Array.toList_inj.1 (valsOf_ok h2 vy)
    subst cx'; subst cy'
    refine .pure hI (.bool q') ?_ (by simp [VR]) rfl
    simp only [execOp, hop, ex, ey]
    refine run_v ?_
    have hr := eqV_run 10000 t _ _ q hq wd
    rcases hq' with ⟨rfl, rfl⟩ | ⟨rfl, rfl⟩
    · simp only [Sem.run_bind, run_eqGuard_agg wd .eql t x y ⟨us⟩ ⟨vs⟩ hg, Result.andThen, run_eql_struct, hr]
    · simp only [Sem.run_bind, run_eqGuard_agg wd .neq t x y ⟨us⟩ ⟨vs⟩ hg, Result.andThen, run_neq_struct, hr]
  unfold eqK at h
  split at h
  · rename_i xs ys hx hy
    split at h
    case h_2 => exact hbase h
    rename_i us vs h1 h2
    split at h
    · exact hbase h
    rename_i hg
    split at h
    case h_2 => exact hbase h
    rename_i q hq
    exact ⟨_, h, fin xs ys us vs q hx hy h1 h2 (by simpa using hg) hq q (.inl ⟨rfl, rfl⟩)⟩
  · rename_i xs ys hx hy
    split at h
    case h_2 => exact hbase h
    rename_i us vs h1 h2
    split at h
    · exact hbase h
    rename_i hg
    split at h
    case h_2 => exact hbase h
    rename_i q hq
    exact ⟨_, h, fin xs ys us vs q hx hy h1 h2 (by simpa using hg) hq (!q) (.inr ⟨rfl, rfl⟩)⟩
  · exact hbase h
def nnB (c : Cap) (n : Nat) : Bool := match c with
  | .nn => true
  | _ => decide (0 < n)
theorem VR.nn {ρ : Ren} {b o n : Nat} {c : Cap} {cv : Value} (h : VR ρ (.slc b o n c) cv) (hb : nnB c n = true) : ∃ ad c', cv = .slice (some ad) n c' := by
  by_cases hc : c = .nn
  · subst hc
    simp only [VR] at h
    rcases h with ⟨cb, co, cc, c', _, _, h⟩ | ⟨h0, a, h⟩
    · exact ⟨_, _, h⟩
    · exact ⟨a, 0, by rw [h, h0]⟩
  · have h0 : 0 < n := by
      unfold nnB at hb
      split at hb
      · exact absurd rfl hc
      · exact of_decide_eq_true hb
    rcases h.slc_cases with ⟨cb, co, cc, c', _, _, h⟩ | ⟨h1, _, _⟩
    · exact ⟨_, _, h⟩
    · omega
def nilK {β : Type} (P : Program) (op : BinOp) (t : TypeId) (a b : AV) (K : Eff → Option β) (base : Option β) : Option β :=
  match op, a, b, P.underlying t with
  | .eql, .slc _ _ n c, .val (.slice none 0 0), some (.slice _) => ifK (nnB c n) (K { val := .val (.bool false) })
  | .neq, .slc _ _ n c, .val (.slice none 0 0), some (.slice _) => ifK (nnB c n) (K { val := .val (.bool true) })
  | .eql, .val (.slice none 0 0), .val (.slice none 0 0), some (.slice _) => K { val := .val (.bool true) }
  | .neq, .val (.slice none 0 0), .val (.slice none 0 0), some (.slice _) => K { val := .val (.bool false) }
  | _, _, _, _ => base
theorem nilK_ok {β : Type} {P : Program} {o : Oper} {op : BinOp} {t yt : TypeId} {x y : Operand} (hop : o.op = .binOp op t x y yt) {E : Operand → AV} {H : Nat → Ent} {new : Nat} {K : Eff → Option β} {base : Option β} {r : β}
    (hbase : base = some r → ∃ e, K e = some r ∧ EffOK P o E H new e) (h : nilK P op t (E x) (E y) K base = some r) : ∃ e, K e = some r ∧ EffOK P o E H new e := by
  unfold nilK at h
  split at h
  · rename_i b ofs n c e hx hy hu
    obtain ⟨hb, hK⟩ := ifK_some h
    refine ⟨_, hK, fun Γ ρ hp w a hI hE hH hn hfree => lstep_of_ok ?_⟩
    have vx := hE x (by simp [hop, Op.operands])
    have vy := hE y (by simp [hop, Op.operands])
    rw [hx] at vx
    rw [hy] at vy
    simp only [VR] at vy
    obtain ⟨ad, c', k4⟩ := vx.nn hb
    · refine .pure hI (.bool false) ?_ (by simp [VR]) rfl
      simp only [execOp, hop, k4, vy]
      refine run_v ?_
      have hg : eqGuard BinOp.eql t x y (.slice (some ad) n c') (.slice none 0 0) = pure () := rfl
      simp only [Sem.run_bind, hg, Sem.run_pure, Result.andThen, binOp, run_equal_slice_nil w t e _ n c' hu]
      rfl
  · rename_i b ofs n c e hx hy hu
    obtain ⟨hb, hK⟩ := ifK_some h
    refine ⟨_, hK, fun Γ ρ hp w a hI hE hH hn hfree => lstep_of_ok ?_⟩
    have vx := hE x (by simp [hop, Op.operands])
    have vy := hE y (by simp [hop, Op.operands])
    rw [hx] at vx
    rw [hy] at vy
    simp only [VR] at vy
    obtain ⟨ad, c', k4⟩ := vx.nn hb
    · refine .pure hI (.bool true) ?_ (by simp [VR]) rfl
      simp only [execOp, hop, k4, vy]
      refine run_v ?_
      have hg : eqGuard BinOp.neq t x y (.slice (some ad) n c') (.slice none 0 0) = pure () := rfl
      simp only [Sem.run_bind, hg, Sem.run_pure, Result.andThen, binOp, run_equal_slice_nil w t e _ n c' hu]
      rfl
  · rename_i e hx hy hu
    refine ⟨_, h, fun Γ ρ hp w a hI hE hH hn hfree => lstep_of_ok ?_⟩
    have vx := hE x (by simp [hop, Op.operands])
    have vy := hE y (by simp [hop, Op.operands])
    rw [hx] at vx
    rw [hy] at vy
    simp only [VR] at vx vy
    refine .pure hI (.bool true) ?_ (by simp [VR]) rfl
    simp only [execOp, hop, vx, vy]
    refine run_v ?_
    have hg : eqGuard BinOp.eql t x y (.slice none 0 0) (.slice none 0 0) = pure () := rfl
    simp only [Sem.run_bind, hg, Sem.run_pure, Result.andThen, binOp, run_equal_slice_nil w t e none 0 0 hu]
    rfl
  · rename_i e hx hy hu
    refine ⟨_, h, fun Γ ρ hp w a hI hE hH hn hfree => lstep_of_ok ?_⟩
    have vx := hE x (by simp [hop, Op.operands])
    have vy := hE y (by simp [hop, Op.operands])
    rw [hx] at vx
    rw [hy] at vy
    simp only [VR] at vx vy
    refine .pure hI (.bool false) ?_ (by simp [VR]) rfl
    simp only [execOp, hop, vx, vy]
    refine run_v ?_
    have hg : eqGuard BinOp.neq t x y (.slice none 0 0) (.slice none 0 0) = pure () := rfl
    simp only [Sem.run_bind, hg, Sem.run_pure, Result.andThen, binOp, run_equal_slice_nil w t e none 0 0 hu]
    rfl
  · exact hbase h
theorem Inv.allocRo {Γ : Ctx} {ρ : Ren} {h : Heap} {w w' : World} (hI : Inv Γ ρ h w) {new : Nat} (hn : Γ.n0 ≤ new) (hfree : h.get new = .free) (cs : Array Value) (e : TypeId) (cells : Cells) (fr : Nat × Nat) (cc : Nat)
    (hh : w'.heap = w.heap.push (.cells cs e fr)) (ho : w'.os = w.os) (ht : w'.tape = w.tape) (hu : w'.output = w.output)
    (hcells : CellsAt ρ w' w.heap.size 0 cells) (hlen : cells.len ≤ cs.size) :
    ρ.le (ρ.put new (w.heap.size, 0, cc)) ∧ Inv Γ (ρ.put new (w.heap.size, 0, cc)) (h.upd new (.live { cells, rw := false })) w' := by
  have hnone := hI.sim.dom new hfree
  have hle := Ren.le_put (c := (w.heap.size, 0, cc)) hnone
  have hold : ∀ cb, cb < w.heap.size → w'.heap[cb]? = w.heap[cb]? := fun cb hcb => by rw [hh, Array.getElem?_push, if_neg (by omega)]
  have hnewb : w'.heap[w.heap.size]? = some (.cells cs e fr) := by rw [hh]; simp
  have hpn : (ρ.put new (w.heap.size, 0, cc)) new = some (w.heap.size, 0, cc) := by simp [Ren.put]
  have hpo : ∀ b, b ≠ new → (ρ.put new (w.heap.size, 0, cc)) b = ρ b := fun b hb => by simp [Ren.put, hb]
  have hgo : ∀ b, b ≠ new → (h.upd new (.live { cells, rw := false })).get b = h.get b := fun b hb => by rw [Heap.get_upd, if_neg hb]
  have hgn : (h.upd new (.live { cells, rw := false })).get new = .live { cells, rw := false } := by rw [Heap.get_upd, if_pos rfl]
  refine ⟨hle, ⟨⟨?_, ?_, ?_, ?_, ?_, ?_, ?_, ?_, ?_⟩, ?_, hI.sameBase, ho.trans hI.os, ht.trans hI.tape, hu.trans hI.output, ?_, ?_, ?_⟩⟩
  · intro b blk hb
    by_cases hbn : b = new
    · subst hbn; exact ⟨_, hpn⟩
    · rw [hgo b hbn] at hb; rw [hpo b hbn]; exact hI.sim.some_ b blk hb
  · intro b blk c hb hc
    by_cases hbn : b = new
    · subst hbn
      rw [hgn] at hb; injection hb with hb; subst hb
      rw [hpn] at hc; injection hc with hc; subst hc
      exact hcells.mono hle
    · rw [hgo b hbn] at hb; rw [hpo b hbn] at hc
      refine ((hI.sim.cells b blk c hb hc).of_cell fun hpos o => cell_of_heap (hold _ ?_) o).mono hle
      exact hI.sim.inside b blk c hb hc (.inl hpos)
  · intro b blk c hb hc hso
    by_cases hbn : b = new
    · subst hbn
      rw [hpn] at hc; injection hc with hc; subst hc
      rw [hh]; simp
    · rw [hgo b hbn] at hb; rw [hpo b hbn] at hc
      have := hI.sim.inside b blk c hb hc hso
      rw [hh]; simp; omega
  · intro b blk c hb hc hrw hso
    by_cases hbn : b = new
    · subst hbn
      rw [hgn] at hb; injection hb with hb; subst hb
      cases hrw
    · rw [hgo b hbn] at hb; rw [hpo b hbn] at hc
      obtain ⟨h1, cs', e', h2, h3⟩ := hI.sim.own b blk c hb hc hrw hso
      exact ⟨h1, cs', e', by rw [hold _ (hI.sim.inside b blk c hb hc hso)]; exact h2, h3⟩
  · intro b b' blk blk' c c' hb hb' hne hc hc' hrw hso hso'
    by_cases hbn : b = new
    · subst hbn
      have hb'n : b' ≠ b := fun e => hne e.symm
      rw [hpn] at hc; injection hc with hc; subst hc
      rw [hgo b' hb'n] at hb'; rw [hpo b' hb'n] at hc'
      rw [hgn] at hb; injection hb with hb; subst hb
      cases hrw
    · by_cases hbn' : b' = new
      · subst hbn'
        rw [hpn] at hc'; injection hc' with hc'; subst hc'
        rw [hgo b hbn] at hb; rw [hpo b hbn] at hc
        have := hI.sim.inside b blk c hb hc hso
        simp; omega
      · rw [hgo b hbn] at hb; rw [hpo b hbn] at hc
        rw [hgo b' hbn'] at hb'; rw [hpo b' hbn'] at hc'
        exact hI.sim.apart b b' blk blk' c c' hb hb' hne hc hc' hrw hso hso'
  · intro b hb
    by_cases hbn : b = new
    · subst hbn; rw [hgn] at hb; cases hb
    · rw [hgo b hbn] at hb; rw [hpo b hbn]; exact hI.sim.dom b hb
  · show ρ.base.heap.size ≤ _
    rw [hh]; simp; have := hI.sim.baseLe; omega
  · intro i hi
    have hi : i < ρ.base.heap.size := hi
    rw [hold i (by have := hI.sim.baseLe; omega)]; exact hI.sim.old i hi
  · intro b blk c hb hc hrw hso
    show ρ.base.heap.size ≤ _
    by_cases hbn : b = new
    · subst hbn
      rw [hgn] at hb; injection hb with hb; subst hb
      cases hrw
    · rw [hgo b hbn] at hb; rw [hpo b hbn] at hc
      exact hI.sim.above b blk c hb hc hrw hso
  · intro b hb
    rw [hpo b (by omega)]; exact hI.agree b hb
  · rw [hh]; simp; have := hI.size; omega
  · intro i hi hn'
    rw [hold i (by have := hI.size; omega)]; exact hI.keep i hi hn'
  · intro b blk c hb hc hrw hso
    by_cases hbn : b = new
    · subst hbn
      rw [hgn] at hb; injection hb with hb; subst hb
      cases hrw
    · rw [hgo b hbn] at hb; rw [hpo b hbn] at hc
      exact hI.fresh b blk c hb hc hrw hso
def strL (s : ByteArray) : List Int := s.data.toList.map fun b => (b.toNat : Int)
theorem strL_len (s : ByteArray) : (strL s).length = s.size := by
  rw [strL, List.length_map]; rfl
theorem strL_flat (s : ByteArray) : Sh.flatl (.int .u8) (strL s) = s.data.toList.map fun b => Value.int .u8 b.toNat := by
  simp only [Sh.flatl, strL]
  induction s.data.toList with
  | nil => rfl
  | cons a l ih => rw [List.map_cons, List.flatMap_cons, ih]; rfl
def bytesOfK {β : Type} (P : Program) (src dst : TypeId) (x : AV) (new : Nat) (K : Eff → Option β) (F : Option β) : Option β :=
  match x, P.underlying src, P.underlying dst with
  | .val (.string s), some .string, some (.slice e) => (match P.underlying e with
    | some (.int .u8) => K { wb := [(new, .live { cells := .arr (.int .u8) (strL s), rw := false })], nw := 1, val := .slc new 0 (strL s).length .unk }
    | _ => none)
  | _, _, _ => F
theorem bytesOfK_ok {β : Type} {P : Program} {o : Oper} {src dst : TypeId} {x : Operand} (hop : o.op = .convert src dst x) {E : Operand → AV} {H : Nat → Ent} {new : Nat} {K : Eff → Option β} {F : Option β} {r : β} (hF : F = some r → ∃ e, K e = some r ∧ EffOK P o E H new e) (h : bytesOfK P src dst (E x) new K F = some r) : ∃ e, K e = some r ∧ EffOK P o E H new e := by
  unfold bytesOfK at h
  split at h
  case h_2 => exact hF h
  rename_i s e hx hs hd
  split at h
  case h_2 => cases h
  rename_i he
  refine ⟨_, h, fun Γ ρ hp w a hI hE hH hn hfree => lstep_of_ok ?_⟩
  have hv := hE x (by simp [hop, Op.operands])
  rw [hx] at hv
  have hv : a.eval x = .string s := by simpa [VR] using hv
  have hge := grownCap_ge w s.size 0 e
  obtain ⟨g1, g2⟩ := hI.allocRo (w' := w.drew.alloc (.cells (bytesRow s (grownCap w s.size 0 e)) e ((bytesRow s (grownCap w s.size 0 e)).size, (bytesRow s (grownCap w s.size 0 e)).size + 1))) hn (hfree new (Nat.le_refl _) (by simp)) (bytesRow s (grownCap w s.size 0 e)) e (.arr (.int .u8) (strL s)) _ (grownCap w s.size 0 e) rfl rfl rfl rfl (fun i v hi => by
    rw [strL_flat] at hi
    rw [Nat.zero_add]
    have hlt := (List.getElem?_eq_some_iff.1 hi).1
    simp only [List.length_map, Array.length_toList] at hlt
    have hh : (w.drew.alloc (.cells (bytesRow s (grownCap w s.size 0 e)) e ((bytesRow s (grownCap w s.size 0 e)).size, (bytesRow s (grownCap w s.size 0 e)).size + 1))).heap[w.heap.size]? = some (.cells (bytesRow s (grownCap w s.size 0 e)) e ((bytesRow s (grownCap w s.size 0 e)).size, (bytesRow s (grownCap w s.size 0 e)).size + 1)) := by
      show (w.heap.push _)[w.heap.size]? = _
      simp
    simp only [World.cell?, hh]
    simp only [bytesRow, Array.getElem?_append, Array.size_map]
    rw [if_pos hlt]
    rw [← hi]
    simp) (by
    show (Sh.flatl (.int .u8) (strL s)).length ≤ _
    rw [strL_flat, bytesRow, Array.size_append, List.length_map, Array.size_map]
    exact Nat.le_add_right _ _)
  refine ⟨_, .value (.slice (some ⟨w.heap.size, 0, none⟩) s.size (grownCap w s.size 0 e)), .slice (some ⟨w.heap.size, 0, none⟩) s.size (grownCap w s.size 0 e), _, ?_, .inl rfl, g1, ?_, g2⟩
  · simp only [execOp, hop, hv]
    refine run_v ?_
    exact run_bytes_of_string w src dst e s hs hd he
  · simp only [VR]
    exact .inl ⟨w.heap.size, 0, grownCap w s.size 0 e, grownCap w s.size 0 e, by simp [Ren.put], by rw [strL_len]; omega, ⟨rfl, rfl⟩, by rw [strL_len]⟩
def arrSlK {β : Type} (P : Program) (t : TypeId) (E : Operand → AV) (x : Operand) (lo hi : Option Operand) (K : Eff → Option β) (F : Option β) : Option β :=
  match E x, P.underlying t with
  | .ptr b o, some (.array n el) => (match P.info? el with
    | none => none
    | some ie => (match optInt E 0 lo, optInt E n hi with
      | some l, some h => ifK (decide (0 ≤ l) && (decide (l ≤ h) && decide (h ≤ (n : Int)))) (K { val := .slc b (o + l.toNat * ie.size) (h - l).toNat (.exact (n - l.toNat)) })
      | _, _ => none))
  | _, _ => F
theorem arrSlK_ok {β : Type} {P : Program} {o : Oper} {t : TypeId} {x : Operand} {lo hi : Option Operand} (hop : o.op = .slice t x lo hi none) {E : Operand → AV} {H : Nat → Ent} {new : Nat} {K : Eff → Option β} {F : Option β} {r : β} (hF : F = some r → ∃ e, K e = some r ∧ EffOK P o E H new e) (h : arrSlK P t E x lo hi K F = some r) : ∃ e, K e = some r ∧ EffOK P o E H new e := by
  unfold arrSlK at h
  split at h
  case h_2 => exact hF h
  rename_i b ofs n el hx hu
  split at h
  · cases h
  rename_i ie hie
  split at h
  case h_2 => cases h
  rename_i l hh hl hh2
  obtain ⟨hb, hK⟩ := ifK_some h
  simp only [Bool.and_eq_true, decide_eq_true_eq] at hb
  obtain ⟨h0, h1, h2⟩ := hb
  refine ⟨_, hK, fun Γ ρ hp w a hI hE hH hn hfree => lstep_of_ok ?_⟩
  rw [hop] at hE
  have hvx := hE x (by simp [Op.operands])
  have hvl : ∀ y, lo = some y → VR ρ (E y) (a.eval y) := fun y hy => hE y (by subst hy; simp [Op.operands])
  have hvh : ∀ y, hi = some y → VR ρ (E y) (a.eval y) := fun y hy => hE y (by subst hy; simp [Op.operands])
  rw [hx] at hvx
  simp only [VR] at hvx
  obtain ⟨cb, co, cc, k1, k2⟩ := hvx
  have hr := run_bounds (P := P) (w := w) false n n l hh (Nat.le_refl _) h0 h1 h2 (lo.map a.eval) (hi.map a.eval) (optInt_ok hl hvl) (by
      rcases optInt_ok hh2 hvh with ⟨g1, g2⟩ | g
      · exact .inl ⟨g1, g2⟩
      · exact .inr g)
  refine .pure hI (.slice (some (if n = l.toNat then ⟨cb, co + ofs, none⟩ else (⟨cb, co + ofs, none⟩ : Addr).add (l.toNat * ie.size))) (hh.toNat - l.toNat) (n - l.toNat)) ?_ ?_ rfl
  · simp only [execOp, hop, k2, Option.map_none]
    refine run_v ?_
    simp only [Instr.sliceAt, Instr.sureAddr, Sem.run_bind, run_underlying' hu, Result.andThen, hr, run_size hie, Sem.run_pure]
  · have e1 : (hh - l).toNat = hh.toNat - l.toNat := by omega
    rw [e1]
    by_cases hc : n = l.toNat
    · rw [if_pos hc]
      have z1 : hh.toNat - l.toNat = 0 := by omega
      have z2 : n - l.toNat = 0 := by omega
      rw [z1, z2]; simp only [VR]
      exact .inr ⟨trivial, trivial, _, rfl⟩
    · rw [if_neg hc]; simp only [VR]
      exact .inl ⟨cb, co, cc, k1, by omega, by rw [add_lit, Nat.add_assoc]⟩
section
variable {P : Program} {t u ty el : TypeId} {ie : TypeInfo} {z : Value}
theorem app_sameS (ht : P.underlying t = some (.slice el)) (hu : P.underlying u = some .string) (hi : P.info? el = some ie) (base : Option Addr) (n cap : Nat) (hn : n ≤ cap) (s : ByteArray) (h0 : s.size = 0) (w : World) :
    (Builtin.append_ #[t, u] ty #[.slice base n cap, .string s]).run P w = .ok (.slice base n cap) w := by
  have hf := Lib.run_firstCells_string (P := P) w ie.size s
  have he : Lib.strCells s = [] := List.eq_nil_of_length_eq_zero (by rw [Lib.strCells_length]; exact h0)
  rw [he, h0] at hf
  cases base with
  | none => simp [Builtin.append_, run_underlying ht, run_underlying hu, sizeOf, typeInfo, hi, Builtin.lenOf, h0, hn, hf]
  | some b => simp [Builtin.append_, run_underlying ht, run_underlying hu, sizeOf, typeInfo, hi, Builtin.lenOf, h0, hn, hf, storeCells]
theorem app_growS (ht : P.underlying t = some (.slice el)) (hu : P.underlying u = some .string) (hi : P.info? el = some ie) (hz : ie.zero = some z) (hzs : z.cells.size = ie.size) (hs1 : ie.size = 1) (base : Option Addr) (n cap : Nat) (hb : base = none → n = 0 ∧ cap = 0) (olds : List Value) (hlo : olds.length = n * ie.size)
    (w : World) (hcell : ∀ b, base = some b → ∀ (j : Nat) (v : Value), olds[j]? = some v → w.cell? (b.add j) = some v)
    (s : ByteArray) (m : Nat) (hsm : s.size = m) (news : List Value) (hnews : news = Lib.strCells s) (hm : 0 < m) (hg : cap < n + m) (h63 : n + m ≤ 9223372036854775807) (hby : (n + m) * ie.bytes ≤ 140737488355328) :
    ∃ g w' cs, (Builtin.append_ #[t, u] ty #[.slice base n cap, .string s]).run P w = .ok (.slice (some ⟨w.heap.size, 0, none⟩) (n + m) g) w' ∧ n + m ≤ g ∧ w'.heap = w.heap.push (.cells cs el (0, 0)) ∧ w'.os = w.os ∧ w'.tape = w.tape ∧ w'.output = w.output ∧ cs.size = g * ie.size ∧ ∀ (j : Nat) (v : Value), (olds ++ news)[j]? = some v → cs[j]? = some v := by
  subst hsm; subst hnews
  have hl : (Lib.strCells s).length = s.size * ie.size := by rw [Lib.strCells_length, hs1, Nat.mul_one]
  cases base with
  | none =>
    obtain ⟨rfl, rfl⟩ := hb rfl
    have ho : olds = [] := List.length_eq_zero_iff.1 (by simpa using hlo)
    subst ho
    have hr := run_append_nil_string (P := P) w t u ty el ie z ht hu hi hz s hm (by omega) (by simp only [Nat.zero_add] at hby; omega)
    have e : s.data.map (fun b => Value.int .u8 b.toNat) = (Lib.strCells s).toArray := by
      apply Array.ext'
      simp [Lib.strCells]
    rw [e] at hr
    refine ⟨grownCap w s.size 0 el, w.drew.alloc (.cells ((Lib.strCells s).toArray ++ Builtin.zeroCells z.cells (grownCap w s.size 0 el - s.size)) el), (Lib.strCells s).toArray ++ Builtin.zeroCells z.cells (grownCap w s.size 0 el - s.size), by rw [Nat.zero_add]; exact hr, by rw [Nat.zero_add]; exact grownCap_ge w s.size 0 el, rfl, rfl, rfl, rfl, ?_, fun j v hj => ?_⟩
    · have := grownCap_ge w s.size 0 el
      simp only [Array.size_append, List.size_toArray, size_zeroCells, hzs, hl, ← Nat.add_mul]
      congr 1; omega
    · have hlt := (List.getElem?_eq_some_iff.1 hj).1
      simp only [List.nil_append] at hj hlt
      rw [Array.getElem?_append_left (by simpa using hlt)]
      simpa using hj
  | some b =>
    have hr := Lib.run_append_grow_string (P := P) w t u ty el ie z ht hu hi hz b n cap olds hlo (hcell b rfl) s hg (by omega) (growslice_fits hg hby)
    refine ⟨_, _, _, hr, grownCap_ge w (n + s.size) cap el, rfl, rfl, rfl, rfl, ?_, fun j v hj => ?_⟩
    · have := grownCap_ge w (n + s.size) cap el
      simp only [Array.size_append, List.size_toArray, size_zeroCells, hzs, hlo, hl, ← Nat.add_mul]
      congr 1; omega
    · have hlt := (List.getElem?_eq_some_iff.1 hj).1
      rw [Array.getElem?_append_left (by simpa using hlt)]
      have : (olds.toArray ++ (Lib.strCells s).toArray)[j]? = (olds ++ Lib.strCells s)[j]? := by simp
      rw [this]; exact hj
theorem app_roomS (ht : P.underlying t = some (.slice el)) (hu : P.underlying u = some .string) (hi : P.info? el = some ie) (g n cap : Nat) (cur : Array Value) (e' : TypeId) (w : World) (hg : w.heap[g]? = some (.cells cur e' (0, 0)))
    (s : ByteArray) (m : Nat) (hsm : s.size = m) (news : List Value) (hnews : news = Lib.strCells s) (hroom : n + m ≤ cap) (hfit : n * ie.size + news.length ≤ cur.size) :
    (Builtin.append_ #[t, u] ty #[.slice (some ⟨g, 0, none⟩) n cap, .string s]).run P w =
      .ok (.slice (some ⟨g, 0, none⟩) (n + m) cap) (w.setRow g (cur.toList.take (n * ie.size) ++ news ++ cur.toList.drop (n * ie.size + news.length)).toArray) := by
  subst hsm; subst hnews
  have hf := Lib.run_firstCells_string (P := P) w ie.size s
  have hst := run_storeCells_at P g (n * ie.size) e' (Lib.strCells s) 0 cur w hg (by simpa using hfit) (Lib.strCells_oneCell s)
  simp only [Nat.add_zero] at hst
  simp [Builtin.append_, run_underlying ht, run_underlying hu, sizeOf, typeInfo, hi, Builtin.lenOf, hroom, hf, Addr.add_lit, hst]
end
theorem run_append_opU {P : Program} {o : Oper} {C : Operand → Value} {x y : Operand} {t u : TypeId} (ho : o.op = .call { callee := .builtin .append, args := #[x, y], argTypes := #[t, u] }) {w w' : World} {v : Value} (h : (Builtin.append_ #[t, u] o.type #[C x, C y]).run P w = .ok v w') :
    (execOp C o).run P w = .ok (.value v) w' := by
  simp only [execOp, ho, resolve]
  show ((do pure (Next.value (← Builtin.append_ #[t, u] o.type (#[x, y].map C)))) : Sem Next).run P w = _
  have e : #[x, y].map C = #[C x, C y] := by simp
  rw [e]
  exact run_v h
def appStrK {β : Type} (P : Program) (t u : TypeId) (a0 a1 : AV) (H : Nat → Ent) (new : Nat) (K : Eff → Option β) (F : Option β) : Option β :=
  match a1, P.underlying u, P.underlying t with
  | .val (.string s), some .string, some (.slice el) => (match P.info? el with
    | none => none
    | some ie => (match ie.zero with
      | none => none
      | some z => if z.cells.size = ie.size ∧ ie.size = 1 then (match dstP H ie.size a0 with
        | none => none
        | some (c1, n, bs1, q1, kill) => (match joinCells n (strL s).length c1 (.arr (.int .u8) (strL s)) with
          | none => none
          | some c => ifK (q1 && ((match kill with
              | some _ => true
              | none => decide (n = 0) || decide (0 < (strL s).length)) && (decide ((n + (strL s).length) * ie.bytes ≤ 140737488355328) && decide (n + (strL s).length ≤ 9223372036854775807)))) (K (appEff ie.size bs1 kill new n (strL s).length (arrOf P el (n + (strL s).length) c))))) else none))
  | _, _, _ => F
theorem appStrK_ok {β : Type} {P : Program} {o : Oper} {t u : TypeId} {x y : Operand} (hop : o.op = .call { callee := .builtin .append, args := #[x, y], argTypes := #[t, u] }) {E : Operand → AV} {H : Nat → Ent} {new : Nat} {K : Eff → Option β} {r : β} {F : Option β} (hF : F = some r → ∃ e, K e = some r ∧ ∀ (Γ : Ctx) (ρ : Ren) (hp : Heap) (w : World) (a : Act), Inv Γ ρ hp w → (∀ z ∈ o.op.operands, VR ρ (E z) (a.eval z)) → (∀ b ∈ e.rb, hp.get b = H b) → Γ.n0 ≤ new → (∀ z, new ≤ z → z < new + e.nw → hp.get z = .free) → OpOK P Γ ρ hp w (execOp a.eval o) e) (h : appStrK P t u (E x) (E y) H new K F = some r) :
    ∃ e, K e = some r ∧ ∀ (Γ : Ctx) (ρ : Ren) (hp : Heap) (w : World) (a : Act), Inv Γ ρ hp w → (∀ z ∈ o.op.operands, VR ρ (E z) (a.eval z)) → (∀ b ∈ e.rb, hp.get b = H b) → Γ.n0 ≤ new → (∀ z, new ≤ z → z < new + e.nw → hp.get z = .free) → OpOK P Γ ρ hp w (execOp a.eval o) e := by
  unfold appStrK at h
  split at h
  case h_2 => exact hF h
  rename_i s el hy hu ht
  split at h
  · cases h
  rename_i ie hi
  split at h
  · cases h
  rename_i z hz
  split at h
  case isFalse => cases h
  rename_i hzs
  split at h
  · cases h
  rename_i c1 n bs1 q1 kill hd
  obtain ⟨m, hms⟩ : ∃ m, m = (strL s).length := ⟨_, rfl⟩
  rw [← hms] at h
  have hsm : s.size = m := by rw [hms, strL_len]
  split at h
  · cases h
  rename_i c0 hj
  obtain ⟨hq, hK⟩ := ifK_some h
  have hsz : 0 < ie.size := by omega
  generalize hcc : arrOf P el (n + m) c0 = c at hK
  simp only [Bool.and_eq_true, decide_eq_true_eq] at hq
  obtain ⟨hq1, hkill, hby, h63⟩ := hq
  refine ⟨_, hK, fun Γ ρ hp w a hI hE hH hn hfree => ?_⟩
  have hH1 : ∀ b ∈ bs1, hp.get b = H b := hH
  have hfr : hp.get new = .free := hfree new (Nat.le_refl _) (by simp [appEff])
  obtain ⟨base, cap, us1, d1, d2, d3, d4, d5, d6, d7, d8⟩ := dstP_ok hI.sim hsz (hE x (by simp [hop, Op.operands, Call.operands])) hd hH1 hq1
  have s1 : a.eval y = .string s := by
    have := hE y (by simp [hop, Op.operands, Call.operands])
    rw [hy] at this
    simpa [VR] using this
  obtain ⟨us2, hus⟩ : ∃ us2, us2 = Lib.strCells s := ⟨_, rfl⟩
  have s2 : CRel ρ (.arr (.int .u8) (strL s)) us2 := by
    show us2 = _
    rw [strL_flat, hus]; rfl
  have s3 : us2.length = m * ie.size := by rw [hus, Lib.strCells_length, hzs.2, Nat.mul_one, hsm]
  have s4 : ∀ v ∈ us2, v.oneCell' = true := by rw [hus]; exact Lib.strCells_oneCell s
  have hrel : CRel ρ c (us1 ++ us2) := hcc ▸ arrOf_ok (joinCells_ok hj d3 s2)
  have hclen : c.len = (n + m) * ie.size := by rw [hrel.len, List.length_append, d4, s3, Nat.add_mul]
  -- what the two ends have in common
  have done : ∀ (v : Value) (w' : World) (ρ' : Ren), (Builtin.append_ #[t, u] o.type #[a.eval x, a.eval y]).run P w = .ok v w' → ρ.le ρ' → VR ρ' (.slc new 0 (n + m) .unk) v → Inv Γ ρ' ((hp.upds (killB kill)).upd new (.live { cells := c, rw := true, grow := some ie.size })) w' → OpOK P Γ ρ hp w (execOp a.eval o) (appEff ie.size bs1 kill new n m c) := by
    intro v w' ρ' h1 h2 h3 h4
    refine ⟨ρ', _, v, w', run_append_opU hop h1, .inl rfl, h2, h3, ?_⟩
    have : hp.upds (appEff ie.size bs1 kill new n m c).wb = (hp.upds (killB kill)).upd new (.live { cells := c, rw := true, grow := some ie.size }) := by
      cases kill <;> rfl
    rw [this]; exact h4
  have kI : Inv Γ ρ (hp.upds (killB kill)) w := by
    cases kill with
    | none => exact hI
    | some b => exact hI.kill b
  have kfr : (hp.upds (killB kill)).get new = .free := by
    cases kill with
    | none => exact hfr
    | some b =>
      obtain ⟨blk, hb, _⟩ := d8 b rfl
      show (hp.upd b .dead).get new = .free
      rw [Heap.get_upd, if_neg (fun e => by rw [← e, hfr] at hb; cases hb)]; exact hfr
  have empty : n + m = 0 → ∀ ρ w cb co, CellsAt ρ w cb co c := fun h0 ρ1 w1 cb co => by
    have hl : c.len = 0 := by rw [hclen, h0, Nat.zero_mul]
    cases c with
    | lit l => have : l = [] := List.length_eq_zero_iff.1 hl
               subst this; intro i v hi; simp at hi
    | arr s l => have : s.flatl l = [] := List.length_eq_zero_iff.1 hl
                 intro i v hi; rw [this] at hi; simp at hi
    | _ => exact absurd hrel (by simp [CRel])
  by_cases hm : m = 0
  · subst hm
    have hrun := app_sameS (ty := o.type) ht hu hi base n cap d2 s hsm w
    rw [← d1, ← s1] at hrun
    have nothing : n = 0 → cap = 0 → OpOK P Γ ρ hp w (execOp a.eval o) (appEff ie.size bs1 kill new n 0 c) := fun h0 hc0 => by
      obtain ⟨g1, g2⟩ := kI.addEmpty hn kfr c (by rw [hclen, h0, Nat.zero_mul]) (empty (by omega)) (some ie.size)
      refine done _ w _ hrun g1 ?_ g2
      simp only [VR]
      exact .inr ⟨by omega, base, by rw [d1, h0, hc0]⟩
    cases hk : kill with
    | none =>
      rw [hk] at hkill
      simp only [Bool.or_eq_true, decide_eq_true_eq] at hkill
      have h0 : n = 0 := by omega
      rw [← hk]
      exact nothing h0 (by rw [d7 hk, h0])
    | some b =>
      obtain ⟨blk, hb, hrw, hgrow, hlen, hcase⟩ := d8 b hk
      rw [← hk]
      rcases hcase with ⟨cb, cc, k1, k2, k3⟩ | ⟨k1, k2⟩
      · have hus2 : us2 = [] := List.length_eq_zero_iff.1 (by simpa using s3)
        have hca : ∀ d, ρ b = some d → CellsAt ρ w d.1 d.2.1 c := fun d hd => by
          rw [k1] at hd; injection hd with hd; subst hd
          rw [hus2, List.append_nil] at hrel
          exact hrel.at_ fun j v hj => by
            have := d6 ⟨cb, 0, none⟩ k2 j v hj
            rw [add_lit] at this; exact this
        have hR := hI.recell hb c (by rw [hclen]; simpa using hlen) hca
        obtain ⟨g1, g2⟩ := hR.move (b := b) (new := new) (by rw [Heap.get_upd, if_pos rfl]) k1 hn (by rw [Heap.get_upd, if_neg (fun e => by rw [← e, hfr] at hb; cases hb)]; exact hfr)
        refine done _ w _ hrun g1 ?_ (g2.congr fun x => ?_)
        · simp only [VR]
          exact .inl ⟨cb, 0, cc, cap, by simp [Ren.put], by omega, ⟨rfl, k3⟩, by rw [d1, k2]; rfl⟩
        · rw [hk]
          have e : ({ blk with cells := c } : Blk) = { cells := c, rw := true, grow := some ie.size } := by
            cases blk; simp at hrw hgrow; simp [hrw, hgrow]
          show ((hp.upd b .dead).upd new _).get x = (((hp.upd b _).upd b .dead).upd new _).get x
          rw [e]
          simp only [Heap.get_upd]
          by_cases h1 : x = new
          · simp [h1]
          · by_cases h2 : x = b
            · simp [h1, h2]
            · simp [h1, h2]
      · exact nothing k1 k2
  · have hm : 0 < m := by omega
    by_cases hroom : n + m ≤ cap
    · -- there is room
      have hkb : ∃ b, kill = some b := by
        cases hk : kill with
        | none => have := d7 hk; omega
        | some b => exact ⟨b, rfl⟩
      obtain ⟨b, hk⟩ := hkb
      obtain ⟨blk, hb, hrw, hgrow, hlen, hcase⟩ := d8 b hk
      rcases hcase with ⟨cb, cc, k1, k2, k3⟩ | ⟨k1, k2⟩
      · subst k3
        have hsol : blk.solid (cb, 0, cap) := .inr ⟨hrw, by show 0 < cap; omega⟩
        obtain ⟨_, cs, e', q1, q2, q3⟩ := hI.sim.own b blk _ hb k1 hrw hsol
        have q1 : w.heap[cb]? = some (.cells cs e' (0, 0)) := q1
        have q3 : cs.size = cap * ie.size := q3 ie.size hgrow
        have hfit : n * ie.size + us2.length ≤ cs.size := by
          rw [s3, q3, ← Nat.add_mul]; exact Nat.mul_le_mul_right _ hroom
        have hrun := app_roomS (P := P) (ty := o.type) ht hu hi cb n cap cs e' w q1 s m hsm us2 hus hroom hfit
        rw [← k2, ← d1, ← s1] at hrun
        have hcell : ∀ i, w.cell? ⟨cb, i, none⟩ = cs[i]? := fun i => by simp [World.cell?, q1]
        have hnew : ∀ i, (w.setRow cb (cs.toList.take (n * ie.size) ++ us2 ++ cs.toList.drop (n * ie.size + us2.length)).toArray).cell? ⟨cb, i, none⟩ = (cs.toList.take (n * ie.size) ++ us2 ++ cs.toList.drop (n * ie.size + us2.length)).toArray[i]? := fun i => cell_setRow w cb cs _ e' q1 i
        have htake : cs.toList.take (n * ie.size) = us1 := by
          apply List.ext_getElem?
          intro j
          rw [List.getElem?_take]
          split
          · rename_i hjl
            have hju : j < us1.length := by omega
            have := d6 ⟨cb, 0, none⟩ k2 j us1[j] (List.getElem?_eq_getElem hju)
            rw [add_lit, hcell, Nat.zero_add] at this
            rw [List.getElem?_eq_getElem hju, ← this]; simp
          · rw [List.getElem?_eq_none (by omega)]
        have hca : CellsAt ρ (w.setRow cb (cs.toList.take (n * ie.size) ++ us2 ++ cs.toList.drop (n * ie.size + us2.length)).toArray) cb 0 c := hrel.at_ fun j v hj => by
          rw [Nat.zero_add, hnew]
          simp only [List.getElem?_toArray]
          rw [htake, List.getElem?_append_left (List.getElem?_eq_some_iff.1 hj).1]
          exact hj
        have hW := hI.write hb hrw k1 hsol cs e' q1 (cs.toList.take (n * ie.size) ++ us2 ++ cs.toList.drop (n * ie.size + us2.length)).toArray (by simp; omega) c (setRow_set w cb cs _ e' q1) rfl rfl rfl hca (by rw [hclen, q3]; exact Nat.mul_le_mul_right _ hroom)
        obtain ⟨g1, g2⟩ := hW.move (b := b) (new := new) (by rw [Heap.get_upd, if_pos rfl]) k1 hn (by rw [Heap.get_upd, if_neg (fun e => by rw [← e, hfr] at hb; cases hb)]; exact hfr)
        refine done _ _ _ hrun g1 ?_ (g2.congr fun x => ?_)
        · simp only [VR]
          exact .inl ⟨cb, 0, cap, cap, by simp [Ren.put], hroom, ⟨rfl, rfl⟩, by rw [k2]⟩
        · rw [hk]
          have e : ({ blk with cells := c } : Blk) = { cells := c, rw := true, grow := some ie.size } := by
            cases blk; simp at hrw hgrow; simp [hrw, hgrow]
          show ((hp.upd b .dead).upd new _).get x = (((hp.upd b _).upd b .dead).upd new _).get x
          rw [e]
          simp only [Heap.get_upd]
          by_cases h1 : x = new
          · simp [h1]
          · by_cases h2 : x = b
            · simp [h1, h2]
            · simp [h1, h2]
      · omega
    · -- it grows
      obtain ⟨g, w', cs, r1, r2, r3, r4, r5, r6, r7, r8⟩ := app_growS (P := P) (ty := o.type) ht hu hi hz hzs.1 hzs.2 base n cap d5 us1 d4 w d6 s m hsm us2 hus hm (by omega) h63 hby
      rw [← d1, ← s1] at r1
      have hca : CellsAt ρ w' w.heap.size 0 c := hrel.at_ fun j v hj => by
        have : w'.heap[w.heap.size]? = some (.cells cs el (0, 0)) := by rw [r3]; simp
        rw [Nat.zero_add]
        simp only [World.cell?, this]
        exact r8 j v hj
      obtain ⟨g1, g2⟩ := kI.alloc hn kfr cs el c (some ie.size) g r3 r4 r5 r6 hca (by rw [hclen, r7]; exact Nat.mul_le_mul_right _ r2) (fun sz hsz => by injection hsz with hsz; subst hsz; exact r7)
      refine done _ w' _ r1 g1 ?_ g2
      simp only [VR]
      exact .inl ⟨w.heap.size, 0, g, g, by simp [Ren.put], r2, ⟨rfl, rfl⟩, rfl⟩
theorem run_copy_string {P : Program} (w : World) (dT sT ty elem : TypeId) (g o dLen dCap : Nat) (s : ByteArray) (cur : Array Value) (t : TypeId) {ie : TypeInfo}
    (hu : P.underlying dT = some (.slice elem)) (hi : P.info? elem = some ie) (hs : ie.size = 1) (hg : w.heap[g]? = some (.cells cur t (0, 0))) (hfit : o + min s.size dLen ≤ cur.size) :
    (Builtin.copy_ #[dT, sT] ty #[.slice (some ⟨g, o, none⟩) dLen dCap, .string s]).run P w =
      .ok (goInt (min s.size dLen : Nat)) (w.setRow g (cur.toList.take o ++ (Lib.strCells s).take (min s.size dLen) ++ cur.toList.drop (o + min s.size dLen)).toArray) := by
  have hl : ((Lib.strCells s).take (min s.size dLen)).length = min s.size dLen := by rw [List.length_take, Lib.strCells_length]; omega
  have hst := run_storeCells_at P g o t ((Lib.strCells s).take (min s.size dLen)) 0 cur w hg (by rw [hl]; simpa using hfit) (fun v hv => Lib.strCells_oneCell s v (List.mem_of_mem_take hv))
  rw [hl, Nat.add_zero] at hst
  have hf : (Builtin.firstCells 1 (Nat.min s.size dLen) (.string s)).run P w = .ok ((Lib.strCells s).take (min s.size dLen)).toArray w := by
    simp only [Builtin.firstCells, Sem.run_pure]
    congr 1
    apply Array.ext'
    simp [Lib.strCells, List.map_take]
  have hlen : (Builtin.lenOf (.string s)).run P w = .ok s.size w := rfl
  simp [Builtin.copy_, run_underlying hu, Builtin.lenOf, sizeOf, typeInfo, hi, hs, hf, hst]
theorem run_copy_op {P : Program} {o : Oper} {C : Operand → Value} {x y : Operand} {t u : TypeId} (ho : o.op = .call { callee := .builtin .copy, args := #[x, y], argTypes := #[t, u] }) {w w' : World} {v : Value} (h : (Builtin.copy_ #[t, u] o.type #[C x, C y]).run P w = .ok v w') :
    (execOp C o).run P w = .ok (.value v) w' := by
  simp only [execOp, ho, resolve]
  show ((do pure (Next.value (← Builtin.copy_ #[t, u] o.type (#[x, y].map C)))) : Sem Next).run P w = _
  have e : #[x, y].map C = #[C x, C y] := by simp
  rw [e]
  exact run_v h
def cpyA (s : ByteArray) (o n j : Nat) (v : AV) : AV :=
  if o ≤ j ∧ j < o + n then (match v with
    | .val (.int .u8 x) => .val (.int .u8 (bif decide (j - o < s.size) then ((s.data.toList.getD (j - o) 0).toNat : Int) else x))
    | _ => .any) else v
def cpyL (s : ByteArray) (o n : Nat) : Nat → List AV → List AV
  | _, [] => []
  | j, v :: l => cpyA s o n j v :: cpyL s o n (j + 1) l
theorem cpyL_len (s : ByteArray) (o n : Nat) : ∀ (j : Nat) (l : List AV), (cpyL s o n j l).length = l.length
  | _, [] => rfl
  | j, v :: l => by simp [cpyL, cpyL_len s o n (j + 1) l]
theorem cpyL_get (s : ByteArray) (o n : Nat) : ∀ (j : Nat) (l : List AV) (i : Nat), (cpyL s o n j l)[i]? = (l[i]?).map (cpyA s o n (j + i))
  | _, [], i => by simp [cpyL]
  | j, v :: l, 0 => by simp [cpyL]
  | j, v :: l, i + 1 => by
    simp only [cpyL, List.getElem?_cons_succ, cpyL_get s o n (j + 1) l i]
    rw [show j + 1 + i = j + (i + 1) by omega]
def copyK {β : Type} (P : Program) (t u : TypeId) (a0 a1 : AV) (H : Nat → Ent) (K : Eff → Option β) : Option β :=
  match a0, a1, P.underlying t with
  | .slc b o n _, .val (.string s), some (.slice el) => (match P.info? el, H b with
    | some ie, .live blk => (match blk.cells with
      | .lit l => if (ie.size = 1 ∧ blk.rw = true) ∧ (0 < n ∧ o + n ≤ l.length) then K { rb := [b], wb := [(b, .live { blk with cells := .lit (cpyL s o n 0 l) })], val := .val (.int .i64 ((min s.size n : Nat) : Int)) } else none
      | _ => none)
    | _, _ => none)
  | _, _, _ => none
theorem copyK_ok {β : Type} {P : Program} {o : Oper} {t u : TypeId} {x y : Operand} (hop : o.op = .call { callee := .builtin .copy, args := #[x, y], argTypes := #[t, u] }) {E : Operand → AV} {H : Nat → Ent} {new : Nat} {K : Eff → Option β} {r : β} (h : copyK P t u (E x) (E y) H K = some r) : ∃ e, K e = some r ∧ EffOK P o E H new e := by
  unfold copyK at h
  split at h
  case h_2 => cases h
  rename_i b ofs n cp s el hx hy ht
  split at h
  case h_2 => cases h
  rename_i ie blk hi hblk
  split at h
  case h_2 => cases h
  rename_i l hcells
  split at h
  case isFalse => cases h
  rename_i hc
  obtain ⟨⟨hs1, hrw⟩, hn0, hnl⟩ := hc
  refine ⟨_, h, fun Γ ρ hp w a hI hE hH hn hfree => lstep_of_ok ?_⟩
  have hvx := hE x (by simp [hop, Op.operands, Call.operands])
  have hvy := hE y (by simp [hop, Op.operands, Call.operands])
  rw [hx] at hvx; rw [hy] at hvy
  have hvy : a.eval y = .string s := by simpa [VR] using hvy
  have hb : hp.get b = .live blk := by rw [hH b (by simp)]; exact hblk
  rcases hvx.slc_cases with ⟨cb, co, cc, c2, h1, h2, h3⟩ | ⟨h1, _⟩
  case inr => omega
  have hsol : blk.solid (cb, co, cc) := .inl (by rw [hcells]; show 0 < l.length; omega)
  obtain ⟨hco, cs, e', q1, q2, q3⟩ := hI.sim.own b blk _ hb h1 hrw hsol
  have hco : co = 0 := hco
  subst hco
  have q1 : w.heap[cb]? = some (.cells cs e' (0, 0)) := q1
  have q2 : l.length ≤ cs.size := by rw [hcells] at q2; exact q2
  have hca := hI.sim.cells b blk _ hb h1
  rw [hcells] at hca
  have hca : ∀ i v, l[i]? = some v → ∃ cv, w.cell? ⟨cb, 0 + i, none⟩ = some cv ∧ VR ρ v cv := hca
  have hrun := run_copy_string (P := P) w t u o.type el cb ofs n c2 s cs e' ht hi hs1 q1 (by omega)
  have hz : (⟨cb, 0 + ofs, none⟩ : Addr) = ⟨cb, ofs, none⟩ := by rw [Nat.zero_add]
  rw [hz] at h3
  rw [← h3, ← hvy] at hrun
  generalize hk : min s.size n = k at hrun
  have hsl : ((Lib.strCells s).take k).length = k := by rw [List.length_take, Lib.strCells_length]; omega
  have hnew : ∀ i, (w.setRow cb (cs.toList.take ofs ++ (Lib.strCells s).take k ++ cs.toList.drop (ofs + k)).toArray).cell? ⟨cb, i, none⟩ = (cs.toList.take ofs ++ (Lib.strCells s).take k ++ cs.toList.drop (ofs + k))[i]? := fun i => by
    rw [cell_setRow w cb cs _ e' q1 i]; simp
  have hold : ∀ i, w.cell? ⟨cb, i, none⟩ = cs.toList[i]? := fun i => by simp [World.cell?, q1]
  have hto : (cs.toList.take ofs).length = ofs := by rw [List.length_take, Array.length_toList]; omega
  have out : ∀ i, i < ofs ∨ ofs + k ≤ i → (cs.toList.take ofs ++ (Lib.strCells s).take k ++ cs.toList.drop (ofs + k))[i]? = cs.toList[i]? := fun i hi => by
    rcases hi with hi | hi
    · rw [List.append_assoc, List.getElem?_append_left (by omega), List.getElem?_take, if_pos hi]
    · rw [List.getElem?_append_right (by rw [List.length_append]; omega), List.getElem?_drop, List.length_append, hto, hsl]
      congr 1; omega
  have inn : ∀ i, ofs ≤ i → i < ofs + k → (cs.toList.take ofs ++ (Lib.strCells s).take k ++ cs.toList.drop (ofs + k))[i]? = some (.int .u8 ((s.data.toList.getD (i - ofs) 0).toNat : Int)) := fun i h1 h2 => by
    rw [List.getElem?_append_left (by rw [List.length_append]; omega), List.getElem?_append_right (by omega), hto, List.getElem?_take, if_pos (by omega)]
    have hlt : i - ofs < s.data.toList.length := by
      have : s.data.toList.length = s.size := rfl
      omega
    simp only [Lib.strCells, List.getElem?_map, List.getElem?_eq_getElem hlt, Option.map_some, List.getD, Option.getD_some]
  have hcA : CellsAt ρ (w.setRow cb (cs.toList.take ofs ++ (Lib.strCells s).take k ++ cs.toList.drop (ofs + k)).toArray) cb 0 (.lit (cpyL s ofs n 0 l)) := fun i v hv => by
    rw [cpyL_get, Nat.zero_add] at hv
    simp only [Option.map_eq_some_iff] at hv
    obtain ⟨v0, hv0, hve⟩ := hv
    obtain ⟨cv, hcv, hvr⟩ := hca i v0 hv0
    rw [Nat.zero_add] at hcv ⊢
    rw [hold] at hcv
    rw [hnew]
    have hil := (List.getElem?_eq_some_iff.1 hv0).1
    unfold cpyA at hve
    split at hve
    · rename_i hr
      by_cases hik : i < ofs + k
      · rw [inn i hr.1 hik]
        refine ⟨_, rfl, ?_⟩
        split at hve
        · subst hve
          have hlt : i - ofs < s.size := by omega
          simp [VR, hlt]
        · subst hve; simp [VR]
      · rw [out i (.inr (by omega)), hcv]
        refine ⟨_, rfl, ?_⟩
        split at hve
        · subst hve
          have hge : ¬ (i - ofs < s.size) := by omega
          simpa [VR, hge] using hvr
        · subst hve; simp [VR]
    · rename_i hr
      subst hve
      rw [out i (by omega), hcv]
      exact ⟨_, rfl, hvr⟩
  have hW := hI.write hb hrw h1 hsol cs e' q1 (cs.toList.take ofs ++ (Lib.strCells s).take k ++ cs.toList.drop (ofs + k)).toArray (by
    rw [List.size_toArray, List.length_append, List.length_append, hto, hsl, List.length_drop, Array.length_toList]; omega) (.lit (cpyL s ofs n 0 l)) (setRow_set w cb cs _ e' q1) rfl rfl rfl hcA (by show (cpyL s ofs n 0 l).length ≤ _; rw [cpyL_len]; exact q2)
  refine ⟨ρ, .value (goInt (k : Nat)), goInt (k : Nat), _, run_copy_op hop hrun, .inl rfl, Ren.le_refl ρ, ?_, hW⟩
  simp [VR, goInt, hk]
def arrPtrK {β : Type} (P : Program) (arr : TypeId) (x : AV) (K : Eff → Option β) : Option β :=
  match x, P.underlying arr with
  | .slc b o n _, some (.array len _) => ifK (decide (len ≤ n) && decide (0 < n)) (K { val := .ptr b o })
  | _, _ => none
theorem arrPtrK_ok {β : Type} {P : Program} {o : Oper} {arr : TypeId} {x : Operand} (hop : o.op = .sliceToArrayPointer arr x) {E : Operand → AV} {H : Nat → Ent} {new : Nat} {K : Eff → Option β} {r : β} (h : arrPtrK P arr (E x) K = some r) : ∃ e, K e = some r ∧ EffOK P o E H new e := by
  unfold arrPtrK at h
  split at h
  case h_2 => cases h
  rename_i b ofs n cp len el hx hu
  obtain ⟨hb, hK⟩ := ifK_some h
  simp only [Bool.and_eq_true, decide_eq_true_eq] at hb
  obtain ⟨hn1, hn0⟩ := hb
  refine ⟨_, hK, fun Γ ρ hp w a hI hE hH hn hfree => lstep_of_ok ?_⟩
  have hv := hE x (by simp [hop, Op.operands])
  rw [hx] at hv
  rcases hv.slc_cases with ⟨cb, co, cc, c', k1, k2, k4⟩ | ⟨k1, _⟩
  · refine .pure hI (.pointer (some ⟨cb, co + ofs, none⟩)) ?_ (by simp only [VR]; exact ⟨cb, co, cc, k1, rfl⟩) rfl
    simp only [execOp, hop, k4]
    refine run_v ?_
    have hlt : ¬ (n < len) := by omega
    simp [Instr.arrayAt, run_underlying' hu, Result.andThen, hlt]
  · omega
def getL {α β : Type} (l : List α) : Nat → Nat → (List α → Option β) → Option β
  | _, 0, f => f []
  | o, n + 1, f => (l[o]?).bind fun v => getL l (o + 1) n fun vs => f (v :: vs)
theorem getL_some {α β : Type} {l : List α} : ∀ {n o : Nat} {f : List α → Option β} {r : β}, getL l o n f = some r → ∃ vs, f vs = some r ∧ ∀ (i : Nat) (v : α), vs[i]? = some v → l[o + i]? = some v
  | 0, o, f, r, h => ⟨[], h, fun i v hv => by simp at hv⟩
  | n + 1, o, f, r, h => by
    simp only [getL, Option.bind_eq_some_iff] at h
    obtain ⟨y, hy, h⟩ := h
    obtain ⟨vs, h1, h2⟩ := getL_some h
    refine ⟨y :: vs, h1, fun i v hv => ?_⟩
    cases i with
    | zero => simp at hv; subst hv; simpa using hy
    | succ i => rw [show o + (i + 1) = o + 1 + i by omega]; exact h2 i v (by simpa using hv)
def spanK {β : Type} (P : Program) (t : TypeId) (b o : Nat) (H : Nat → Ent) (K : Eff → Option β) (F : Option β) : Option β :=
  match H b, P.underlying t with
  | .live blk, some (.array n _) => (match blk.cells with
    | .arr (.int k) l => getL l o n fun vs => (match partA P t (vs.map fun v => AV.val (.int k v)) 0 with
      | some a => K { rb := [b], val := a }
      | none => none)
    | _ => F)
  | _, _ => F
theorem spanK_ok {β : Type} {P : Program} {o : Oper} {t : TypeId} {x : Operand} (hop : o.op = .load t x) {E : Operand → AV} {b ofs : Nat} (hx : E x = .ptr b ofs) {H : Nat → Ent} {new : Nat} {K : Eff → Option β} {F : Option β} {r : β} (hF : F = some r → ∃ e, K e = some r ∧ EffOK P o E H new e) (h : spanK P t b ofs H K F = some r) : ∃ e, K e = some r ∧ EffOK P o E H new e := by
  unfold spanK at h
  split at h
  case h_2 => exact hF h
  rename_i blk n el hblk hu
  split at h
  case h_2 => exact hF h
  rename_i k l hl
  obtain ⟨vs, hK, hvs⟩ := getL_some h
  split at hK
  case h_2 => cases hK
  rename_i av hav
  refine ⟨_, hK, fun Γ ρ hp w a hI hE hH hn hfree => lstep_of_ok ?_⟩
  have hv := hE x (by simp [hop, Op.operands])
  rw [hx] at hv
  simp only [VR] at hv
  obtain ⟨cb, co, cc, hρ, hp2⟩ := hv
  have hb : hp.get b = .live blk := by rw [hH b (by simp)]; exact hblk
  have hcells := hI.sim.cells b blk _ hb hρ
  rw [hl] at hcells
  have hcells : ∀ i v, ((Sh.int k).flatl l)[i]? = some v → w.cell? ⟨cb, co + i, none⟩ = some v := hcells
  have hlit : CellsAt ρ w cb (co + ofs) (.lit (vs.map fun v => AV.val (.int k v))) := fun i v hv => by
    rw [List.getElem?_map, Option.map_eq_some_iff] at hv
    obtain ⟨y, hy, rfl⟩ := hv
    have := flatl_get (s := .int k) rfl (by simp [Sh.w]) (hvs i y hy) (j := 0) (v := .int k y) (by simp [Sh.enc])
    simp only [Sh.w, Nat.mul_one, Nat.add_zero] at this
    refine ⟨.int k y, ?_, by simp [VR]⟩
    rw [Nat.add_assoc]; exact hcells _ _ this
  obtain ⟨rv, h1, h2⟩ := loadVar_lit hav hlit
  refine .pure hI rv ?_ h2 rfl
  simp only [execOp, hop, hp2]
  refine run_v ?_
  simp only [Instr.loadAt, Sem.run_bind, Instr.sureAddr, Result.andThen]
  exact h1
def forceL {α β : Type} : List α → (List α → β) → β
  | [], k => k []
  | x :: l, k => forceL l fun l' => k (x :: l')
theorem forceL_eq {α β : Type} : ∀ (l : List α) (k : List α → β), forceL l k = k l
  | [], _ => rfl
  | x :: l, k => by rw [forceL, forceL_eq l]
def forceE {β : Type} (f : Bool) (e : Eff) (K : Eff → Option β) : Option β :=
  match f, e with
  | true, ⟨rb, [(x, .live ⟨.arr s l, r, g⟩)], nw, v, ob⟩ => forceL l fun l' => K ⟨rb, [(x, .live ⟨.arr s l', r, g⟩)], nw, v, ob⟩
  | true, ⟨rb, [d, (x, .live ⟨.arr s l, r, g⟩)], nw, v, ob⟩ => forceL l fun l' => K ⟨rb, [d, (x, .live ⟨.arr s l', r, g⟩)], nw, v, ob⟩
  | _, e => K e
theorem forceE_eq {β : Type} (f : Bool) (e : Eff) (K : Eff → Option β) : forceE f e K = K e := by
  unfold forceE
  split
  · rw [forceL_eq]
  · rw [forceL_eq]
  · rfl
def Env.forced {P : Program} (env : Env P) : Bool := match env.l with
  | [] => false
  | s :: _ => s.f == 1000000
def opK {β : Type} (P : Program) (env : Env P) (o : Oper) (E : Operand → AV) (H : Nat → Ent) (new : Nat) (K : Eff → Option β) : Option β :=
  match o.op with
  | .call { callee := .value fo, args := as, .. } => callK env as fo E H new K
  | .call { callee := .builtin .append, args := as, argTypes := ts } => (match as.toList, ts.toList with
    | [x, y], [t, t'] => if t' = t then appK P t (E x) (E y) H new (fun e => forceE env.forced e K) else appStrK P t t' (E x) (E y) H new K (zeroK P t t' (E x) (E y) new K)
    | _, _ => none)
  | .call { callee := .builtin .copy, args := as, argTypes := ts } => (match as.toList, ts.toList with
    | [x, y], [t, t'] => copyK P t t' (E x) (E y) H K
    | _, _ => none)
  | .indexAddr t x i => idxAddrK P t (E x) (E i) H K
  | .index t x i => idxK P t (E x) (E i) K
  | .slice t x lo hi none => arrSlK P t E x lo hi K (sliceK P t E x lo hi K)
  | .slice t x lo (some hi) (some mx) => slice3K P t E x lo hi mx K
  | .load t x => (match E x with
    | .elt b k i w f => eltLoadK P t b k i w f H new K
    | .ptr b k => spanK P t b k H K (baseK P o E H new K)
    | _ => baseK P o E H new K)
  | .sliceToArrayPointer t x => arrPtrK P t (E x) K
  | .fieldAddr s x f => (match E x with
    | .elt b k i w g => (match fieldOf P s f with
      | none => none
      | some fd => match P.info? fd.type with
        | none => none
        | some i' => if i'.size = 0 then none else K { val := .elt b k i w (g + fd.offset) })
    | _ => baseK P o E H new K)
  | .binOp op t x y _ => binK P o E op x y K (eqK P op t (E x) (E y) K (nilK P op t (E x) (E y) K (baseK P o E H new K)))
  | .makeInterface t x => ifaceK P t (E x) K
  | .buildSlice t 0 ⟨[]⟩ => emptyK P t new K
  | .convert src dst x => bytesOfK P src dst (E x) new K (convK P src dst (E x) H K (baseK P o E H new K))
  | .makeSlice t x y => (match x, y with
    | .tmp i, .tmp j => if i = j then makeNK P t (E (.tmp i)) new K else makeK P t (E x) (E y) new K
    | _, _ => makeK P t (E x) (E y) new K)
  | .store t x y => (match E x with
    | .elt b k i w f => eltStoreK P t b k i w f H (E y) K
    | _ => baseK P o E H new K)
  | _ => baseK P o E H new K
theorem opK_ok {β : Type} {P : Program} {env : Env P} {o : Oper} {E : Operand → AV} {H : Nat → Ent} {new : Nat} {K : Eff → Option β} {r : β} (h : opK P env o E H new K = some r) : ∃ e, K e = some r ∧ EffOKY P env.Y o E H new e := by
  unfold opK at h
  split at h
  · rename_i fo as ts hop
    exact callK_ok hop h
  · rename_i as ts hop
    split at h
    case h_2 => cases h
    rename_i x y t t' has hts
    have e1 : as = #[x, y] := Array.toList_inj.1 has
    have e2 : ts = #[t, t'] := Array.toList_inj.1 hts
    subst e1; subst e2
    split at h
    · rename_i htt
      subst htt
      obtain ⟨e, hk, hok⟩ := appK_ok hop h
      rw [forceE_eq] at hk
      exact ⟨e, hk, EffOK.y fun Γ ρ hp w a hI hE hH hn hfree => lstep_of_ok (hok Γ ρ hp w a hI hE hH hn hfree)⟩
    · obtain ⟨e, hk, hok⟩ := appStrK_ok hop (zeroK_ok (H := H) hop) h
      exact ⟨e, hk, EffOK.y fun Γ ρ hp w a hI hE hH hn hfree => lstep_of_ok (hok Γ ρ hp w a hI hE hH hn hfree)⟩
  · rename_i as ts hop
    split at h
    case h_2 => cases h
    rename_i x y t t' has hts
    have e1 : as = #[x, y] := Array.toList_inj.1 has
    have e2 : ts = #[t, t'] := Array.toList_inj.1 hts
    subst e1; subst e2
    exact effOK_y (copyK_ok hop h)
  · rename_i t x i hop
    exact effOK_y (idxAddrK_ok hop h)
  · rename_i t x i hop
    exact effOK_y (idxK_ok hop h)
  · rename_i t x lo hi hop
    exact effOK_y (arrSlK_ok hop (sliceK_ok hop) h)
  · rename_i t x lo hi mx hop
    exact effOK_y (slice3K_ok hop h)
  · rename_i t x hop
    split at h
    · rename_i b k i w f hx
      exact effOK_y (eltLoadK_ok hop hx h)
    · rename_i b k hx
      exact effOK_y (spanK_ok hop hx baseK_ok h)
    · exact effOK_y (baseK_ok h)
  · rename_i t x hop
    exact effOK_y (arrPtrK_ok hop h)
  · rename_i s x f hop
    split at h
    · rename_i b k i w g hx
      split at h
      · cases h
      rename_i fd hfd
      split at h
      · cases h
      rename_i i' hi'
      split at h
      · cases h
      rename_i hsz
      refine ⟨_, h, EffOK.y fun Γ ρ hp wd act hI hE hH hn hfree => lstep_of_ok ?_⟩
      have hv := hE x (by simp [hop, Op.operands])
      rw [hx] at hv
      have hv' : VR ρ (.ptr b (k + i * w + g)) (act.eval x) := by simpa [VR] using hv
      obtain ⟨ρ', nx, cv, w', h1, h2, h3, h4, h5⟩ := coreFieldAddr_ok (P := P) (s := s) (f := f) hI hv' (e := { val := .ptr b (k + i * w + g + fd.offset) }) (by simp [coreFieldAddr, hfd, hi', hsz])
      refine ⟨ρ', nx, cv, w', by simpa only [execOp, hop] using h1, h2, h3, ?_, h5⟩
      simp only [VR] at h4 ⊢
      obtain ⟨cb, co, cc, h6, h7⟩ := h4
      exact ⟨cb, co, cc, h6, by rw [h7]; congr 3; omega⟩
    · exact effOK_y (baseK_ok h)
  · rename_i op t x y yt hop
    exact effOK_y (binK_ok hop (fun h => eqK_ok hop (fun h => nilK_ok hop baseK_ok h) h) h)
  · rename_i t x hop
    exact effOK_y (ifaceK_ok hop h)
  · rename_i t hop
    exact effOK_y (emptyK_ok hop h)
  · rename_i src dst x hop
    exact effOK_y (bytesOfK_ok hop (convK_ok hop baseK_ok) h)
  · rename_i t x y hop
    split at h
    · rename_i i j
      split at h
      · rename_i hij
        subst hij
        exact effOK_y (makeNK_ok hop h)
      · exact effOK_y (makeK_ok hop h)
    · exact effOK_y (makeK_ok hop h)
  · rename_i t x y hop
    split at h
    · rename_i b k i w f hx
      exact effOK_y (eltStoreK_ok hop hx h)
    · exact effOK_y (baseK_ok h)
  · exact effOK_y (baseK_ok h)
end Go.Ab
