/-
  CORE 10: one operation of a region, but for calls.
-/
import Derived.Test.YtiikkepnpidilaaCore9
set_option linter.unusedVariables false
set_option linter.unusedSimpArgs false
namespace Go.Ab

def isSliceT (P : Program) (t : TypeId) : Bool :=
  match P.underlying t with
  | some (.slice _) => true
  | _ => false
def lenEff (P : Program) (o : Oper) (E : Operand → AV) (x : Operand) (t : TypeId) : Option Eff :=
  match E x with
  | .slc b k n c => if isSliceT P t = true then some { val := .val (.int .i64 n) } else none
  | _ => corePlain P o E
theorem run_len {P : Program} {o : Oper} {C : Operand → Value} {args : Array Operand} {ts : Array TypeId} {x : Operand} {t : TypeId} {ad : Option Addr} {n c : Nat} (ho : o.op = .call { callee := .builtin .len, args, argTypes := ts }) (hx : args[0]? = some x) (ht : ts[0]? = some t) (hs : isSliceT P t = true)
    (hC : C x = .slice ad n c) (w : World) : (execOp C o).run P w = .ok (.value (.int .i64 n)) w := by
  unfold isSliceT at hs
  split at hs
  · rename_i el hu
    simp only [execOp, ho, resolve]
    show ((do pure (Next.value (← Builtin.len_ ts o.type (args.map C)))) : Sem Next).run P w = _
    refine run_v ?_
    have h1 : (args.map C)[0]? = some (.slice ad n c) := by rw [Array.getElem?_map, hx]; simp [hC]
    simp only [Builtin.len_, ht, h1, Sem.run_bind, run_underlying' hu, Result.andThen]
    rfl
  · cases hs

/-- Division, shifts by what is not known: owed that it goes. -/
def arith (op : BinOp) (a b : AV) (chk : Option Pf) : Option Eff :=
  match chk with
  | none => none
  | some pf =>
    match op, a, b with
    | .quo, .val (.int k x), .val (.int k' y) => if k = k' then some { val := .val (.int k (k.wrap (x.tdiv y))), ob := [.prop (y ≠ 0) pf.p] } else none
    | .rem, .val (.int k x), .val (.int k' y) => if k = k' then some { val := .val (.int k (x.tmod y)), ob := [.prop (y ≠ 0) pf.p] } else none
    | .shl, .val (.int k x), .val (.int _ y) => some { val := .val (.int k (k.wrap (x * 2 ^ min y.toNat k.bits))), ob := [.prop (0 ≤ y) pf.p] }
    | .shr, .val (.int k x), .val (.int _ y) => some { val := .val (.int k (x.fdiv (2 ^ min y.toNat k.bits))), ob := [.prop (0 ≤ y) pf.p] }
    | _, _, _ => none
theorem arith_run {P : Program} {ρ : Ren} {op : BinOp} {t : TypeId} {a b : AV} {x y : Value} {chk : Option Pf} {e : Eff} (hc : arith op a b chk = some e) (hob : ∀ q ∈ e.ob, q.holds) (hx : VR ρ a x) (hy : VR ρ b y) (w : World) (X Y : Operand) :
    ∃ v, ((do eqGuard op t X Y x y; binOp op t x y) : Sem Value).run P w = .ok v w ∧ VR ρ e.val v ∧ e.wb = [] := by
  unfold arith at hc
  split at hc
  case h_1 => cases hc
  rename_i pf
  split at hc
  · split at hc
    case isFalse => cases hc
    rename_i hk; subst hk
    injection hc with hc; subst hc
    simp only [VR] at hx hy; subst hx; subst hy
    rename_i k x y
    have h0 : y ≠ 0 := cast (Eq.symm (hob _ (List.mem_singleton.2 rfl))) pf.h
    refine ⟨_, ?_, by simp only [VR]; rfl, rfl⟩
    simp only [binOp, ne_eq, not_true_eq_false, if_false, Op.intDiv, h0]
    rfl
  · split at hc
    case isFalse => cases hc
    rename_i hk; subst hk
    injection hc with hc; subst hc
    simp only [VR] at hx hy; subst hx; subst hy
    rename_i k x y
    have h0 : y ≠ 0 := cast (Eq.symm (hob _ (List.mem_singleton.2 rfl))) pf.h
    refine ⟨_, ?_, by simp only [VR]; rfl, rfl⟩
    simp only [binOp, ne_eq, not_true_eq_false, if_false, Op.intDiv, h0]
    rfl
  · rename_i k x k' y
    injection hc with hc; subst hc
    simp only [VR] at hx hy; subst hx; subst hy
    have h0 : 0 ≤ y := cast (Eq.symm (hob _ (List.mem_singleton.2 rfl))) pf.h
    refine ⟨_, ?_, by simp only [VR]; rfl, rfl⟩
    have h0' := Int.not_lt.2 h0
    simp only [binOp, Op.shift, h0', if_false]
    rfl
  · rename_i k x k' y
    injection hc with hc; subst hc
    simp only [VR] at hx hy; subst hx; subst hy
    have h0 : 0 ≤ y := cast (Eq.symm (hob _ (List.mem_singleton.2 rfl))) pf.h
    refine ⟨_, ?_, by simp only [VR]; rfl, rfl⟩
    have h0' := Int.not_lt.2 h0
    simp only [binOp, Op.shift, h0', if_false]
    rfl
  · cases hc

def coreBin (P : Program) (o : Oper) (E : Operand → AV) (op : BinOp) (t : TypeId) (x y : Operand) (chk : Option Pf) : Option Eff :=
  match coreNil P op t (E x) (E y) chk with
  | some e => some e
  | none => match coreNil P op t (E y) (E x) chk with
    | some _ => none
    | none => match arith op (E x) (E y) chk with
      | some e => some e
      | none => corePlain P o E

/-- A slice's parts, laid into a new block; it may be appended to in place. -/
def coreBuildSlice (P : Program) (t : TypeId) (len : Nat) (ps : List (Nat × AV)) (new : Nat) : Option Eff :=
  match P.underlying t with
  | some (.slice el) => (P.info? el).bind fun ie => ie.zero.bind fun z => if len * ie.size ≤ 2 ^ 24 ∧ 0 < len * ie.size then
      (fillA (fun i => some (i * ie.size, ie.size)) (((Array.range (len * ie.size)).map (fun x => z.cells[x % z.cells.size]!)).toList.map .val) ps).map fun out => { wb := [(new, .live { cells := .lit out, rw := true })], nw := 1, val := .slc new 0 len (.exact len) }
    else none
  | _ => none
theorem coreBuildSlice_ok {P : Program} {Γ : Ctx} {ρ : Ren} {h : Heap} {w : World} (hI : Inv Γ ρ h w) {t : TypeId} {len : Nat} {ps : List (Nat × AV)} {us : Array (Nat × Value)} (h1 : ps.map (·.1) = us.toList.map (·.1)) (h2 : VRs ρ (ps.map (·.2)) (us.toList.map (·.2))) {new : Nat} {e : Eff} (hc : coreBuildSlice P t len ps new = some e) (hn : Γ.n0 ≤ new) (hfree : h.get new = .free) :
    OpOK P Γ ρ h w (do pure (.value (← Instr.buildSlice t len us))) e := by
  unfold coreBuildSlice at hc
  split at hc
  case h_2 => cases hc
  rename_i el hu
  simp only [Option.bind_eq_some_iff] at hc
  obtain ⟨ie, hie, z, hz, hc⟩ := hc
  split at hc
  case isFalse => cases hc
  rename_i hcond
  simp only [Option.map_eq_some_iff] at hc
  obtain ⟨out, hf, rfl⟩ := hc
  obtain ⟨cs', h3, h4⟩ := fillA_ok (ρ := ρ) ps us.toList _ ((Array.range (len * ie.size)).map (fun x => z.cells[x % z.cells.size]!)) out hf (VRs.vals _) h1 h2
  obtain ⟨ρ', k1, k2, k3⟩ := alloc_lit hI hn hfree el h4
  refine ⟨ρ', _, _, _, run_v (v := .slice (some ⟨w.heap.size, 0, none⟩) len len) ?_, .inl rfl, k1, ?_, k3⟩
  · have e1 : ¬ len * ie.size > 2 ^ 24 := by omega
    have e2 : ¬ len * ie.size = 0 := by omega
    simp only [Instr.buildSlice, Sem.run_bind, run_underlying' hu, Result.andThen, run_size hie, e1, e2, if_false, run_zero hie hz, pure, Sem.run, h3, run_newRow]
  · simp only [VR]; exact .inl ⟨w.heap.size, 0, 0, k2, Nat.le_refl _, rfl⟩

def coreBase (P : Program) (o : Oper) (E : Operand → AV) (H : Nat → Ent) (new : Nat) (lds : Option (List Value × Pf)) (chk : Option Pf) : Option Eff :=
  match o.op with
  | .move x => some { val := E x }
  | .assign x => some { val := E x }
  | .pick c a b => match E c with
    | .val (.bool c) => some { val := if c = true then E a else E b }
    | _ => none
  | .alloc t => coreAlloc P t new
  | .box t x => coreBox (E x) new
  | .build t ps => coreBuild P t (zipParts ps E)
  | .buildSlice t len ps => coreBuildSlice P t len (zipParts ps E) new
  | .load t x => match E x with
    | .ptr b k => coreLoad P t b k (H b) lds new
    | _ => none
  | .store t x y => match E x with
    | .ptr b k => coreStore P t b k (H b) (E y) chk
    | _ => none
  | .nilCheck x => match E x with
    | .ptr b k => some { val := .ptr b k }
    | .fn (.func f) a b => some { val := .fn (.func f) a b }
    | _ => none
  | .binOp op t x y _ => coreBin P o E op t x y chk
  | .makeFunc f a b => some { val := .fn f (a.toList.map E) (b.toList.map E) }
  | .fieldAddr s x f => match E x with
    | .ptr b k => coreFieldAddr P s b k f
    | _ => none
  | .field s x f => coreField P s f (E x)
  | .indexAddr t x i => coreIndexAddr P t (E x) (E i) chk
  | .index t x i => coreIndex P t (E x) (E i) chk
  | .extract x i => match E x with
    | .tup vs => (vs[i]?).map fun a => { val := a }
    | _ => none
  | .call { callee := .builtin .len, args, argTypes } => match args[0]?, argTypes[0]? with
    | some x, some t => lenEff P o E x t
    | _, _ => none
  | _ => corePlain P o E

theorem coreLoad_rb {P : Program} {t : TypeId} {b o : Nat} {e : Ent} {vs : Option (List Value × Pf)} {new : Nat} {r : Eff} (h : coreLoad P t b o e vs new = some r) : r.rb = [b] := by
  unfold coreLoad at h
  split at h
  · split at h
    · simp only [Option.map_eq_some_iff] at h; obtain ⟨_, _, rfl⟩ := h; rfl
    · simp only [Option.bind_eq_some_iff] at h
      obtain ⟨vs, _, d, _, h⟩ := h
      split at h
      · simp only [Option.bind_eq_some_iff] at h
        obtain ⟨i, _, h⟩ := h
        split at h
        · injection h with h; subst h; rfl
        · cases h
      · split at h
        · injection h with h; subst h; rfl
        · cases h
    · simp only [Option.bind_eq_some_iff] at h
      obtain ⟨vs, _, d, _, h⟩ := h
      split at h
      · cases h
      · injection h with h; subst h; rfl
    · cases h
  · cases h
theorem coreStore_rb {P : Program} {t : TypeId} {b o : Nat} {e : Ent} {a : AV} {pf : Option Pf} {r : Eff} (h : coreStore P t b o e a pf = some r) : r.rb = [b] := by
  unfold coreStore at h
  split at h
  · split at h
    · simp only [Option.bind_eq_some_iff] at h
      obtain ⟨vs, _, i, _, h⟩ := h
      split at h
      · split at h
        · split at h
          · injection h with h; subst h; rfl
          · cases h
        · simp only [Option.bind_eq_some_iff, Option.map_eq_some_iff] at h; obtain ⟨_, _, _, _, rfl⟩ := h; rfl
        · cases h
      · cases h
    · cases h
  · cases h

theorem coreBase_ok {P : Program} {Γ : Ctx} {ρ : Ren} {h : Heap} {w : World} (hI : Inv Γ ρ h w) {o : Oper} {E : Operand → AV} {C : Operand → Value} (hE : ∀ x ∈ o.op.operands, VR ρ (E x) (C x))
    {H : Nat → Ent} {new : Nat} {lds : Option (List Value × Pf)} {chk : Option Pf} {e : Eff} (hc : coreBase P o E H new lds chk = some e) (hob : ∀ p ∈ e.ob, p.holds) (hH : ∀ b ∈ e.rb, h.get b = H b) (hn : Γ.n0 ≤ new) (hfree : ∀ x, new ≤ x → x < new + e.nw → h.get x = .free) :
    OpOK P Γ ρ h w (execOp C o) e := by
  unfold coreBase at hc
  split at hc
  · rename_i x hop
    injection hc with hc; subst hc
    exact .pure hI (C x) (by simp only [execOp, hop]; rfl) (hE x (by simp [hop, Op.operands])) rfl
  · rename_i x hop
    injection hc with hc; subst hc
    exact .pure hI (C x) (by simp only [execOp, hop]; rfl) (hE x (by simp [hop, Op.operands])) rfl
  · rename_i c a b hop
    split at hc
    case h_2 => cases hc
    rename_i c' hcc
    injection hc with hc; subst hc
    have h1 := hE c (by simp [hop, Op.operands])
    rw [hcc] at h1; simp only [VR] at h1
    refine .pure hI (if c' = true then C a else C b) ?_ ?_ rfl
    · simp only [execOp, hop, h1, asBool]
      cases c' <;> rfl
    · cases c'
      · simpa using hE b (by simp [hop, Op.operands])
      · simpa using hE a (by simp [hop, Op.operands])
  · rename_i t hop
    have hnw : e.nw = 1 := by simp only [coreAlloc, Option.map_eq_some_iff] at hc; obtain ⟨_, _, rfl⟩ := hc; rfl
    have := coreAlloc_ok hI hc hn (hfree new (Nat.le_refl _) (by omega))
    simpa only [execOp, hop] using this
  · rename_i t x hop
    have hnw : e.nw = 1 := by simp only [coreBox, Option.map_eq_some_iff] at hc; obtain ⟨_, _, rfl⟩ := hc; rfl
    have := coreBox_ok (P := P) (t := t) hI (hE x (by simp [hop, Op.operands])) hc hn (hfree new (Nat.le_refl _) (by omega))
    simpa only [execOp, hop] using this
  · rename_i t ps hop
    have h1 : ∀ (l : List (Nat × Operand)), (l.map fun p => (p.1, E p.2)).map (·.1) = (l.map fun (i, x) => (i, C x)).map (·.1) := fun l => by simp
    have h2 : ∀ (l : List (Nat × Operand)), (∀ p ∈ l, VR ρ (E p.2) (C p.2)) → VRs ρ ((l.map fun p => (p.1, E p.2)).map (·.2)) ((l.map fun (i, x) => (i, C x)).map (·.2)) := fun l hl => by
      induction l with
      | nil => simp [VRs]
      | cons p l ih =>
        simp only [List.map_cons, VRs]
        exact ⟨hl p (List.mem_cons_self ..), ih fun q hq => hl q (List.mem_cons_of_mem _ hq)⟩
    have := coreBuild_ok hI (t := t) (ps := zipParts ps E) (us := ps.map fun (i, x) => (i, C x)) (by simp [zipParts]) (by
      have := h2 ps.toList fun p hp => hE p.2 (by simp only [hop, Op.operands]; simpa using ⟨p.1, by simpa using hp⟩)
      simpa [zipParts] using this) hc
    simpa only [execOp, hop] using this
  · rename_i t len ps hop
    have h1 : ∀ (l : List (Nat × Operand)), (l.map fun p => (p.1, E p.2)).map (·.1) = (l.map fun (i, x) => (i, C x)).map (·.1) := fun l => by simp
    have h2 : ∀ (l : List (Nat × Operand)), (∀ p ∈ l, VR ρ (E p.2) (C p.2)) → VRs ρ ((l.map fun p => (p.1, E p.2)).map (·.2)) ((l.map fun (i, x) => (i, C x)).map (·.2)) := fun l hl => by
      induction l with
      | nil => simp [VRs]
      | cons p l ih =>
        simp only [List.map_cons, VRs]
        exact ⟨hl p (List.mem_cons_self ..), ih fun q hq => hl q (List.mem_cons_of_mem _ hq)⟩
    have hnw : e.nw = 1 := by
      unfold coreBuildSlice at hc
      split at hc
      · simp only [Option.bind_eq_some_iff] at hc
        obtain ⟨_, _, _, _, hc⟩ := hc
        split at hc
        · simp only [Option.map_eq_some_iff] at hc; obtain ⟨_, _, rfl⟩ := hc; rfl
        · cases hc
      · cases hc
    have := coreBuildSlice_ok hI (t := t) (ps := zipParts ps E) (us := ps.map fun (i, x) => (i, C x)) (by simp [zipParts]) (by
      have := h2 ps.toList fun p hp => hE p.2 (by simp only [hop, Op.operands]; simpa using ⟨p.1, by simpa using hp⟩)
      simpa [zipParts] using this) hc hn (hfree new (Nat.le_refl _) (by omega))
    simpa only [execOp, hop] using this
  · rename_i t x hop
    split at hc
    case h_2 => cases hc
    rename_i b k hx
    have h1 := hE x (by simp [hop, Op.operands]); rw [hx] at h1
    have hrb := coreLoad_rb hc
    have := coreLoad_ok hI h1 (vs := lds) (new := new) (e := e) (by rw [hH b (by rw [hrb]; simp)]; exact hc) hob hn hfree
    simpa only [execOp, hop] using this
  · rename_i t x y hop
    split at hc
    case h_2 => cases hc
    rename_i b k hx
    have h1 := hE x (by simp [hop, Op.operands]); rw [hx] at h1
    have hrb := coreStore_rb hc
    have := coreStore_ok (t := t) hI h1 (hE y (by simp [hop, Op.operands])) (e := e) (by rw [hH b (by rw [hrb]; simp)]; exact hc) hob
    simpa only [execOp, hop] using this
  · rename_i x hop
    have h1 := hE x (by simp [hop, Op.operands])
    split at hc
    · rename_i b k hx
      injection hc with hc; subst hc
      rw [hx] at h1
      refine .pure hI (C x) ?_ h1 rfl
      simp only [VR] at h1
      obtain ⟨cb, co, cc, _, h1⟩ := h1
      simp only [execOp, hop, h1]; rfl
    · rename_i f a b hx
      injection hc with hc; subst hc
      rw [hx] at h1
      refine .pure hI (C x) ?_ h1 rfl
      simp only [VR] at h1
      obtain ⟨fs, cs, h1, _⟩ := h1
      simp only [execOp, hop, h1]; rfl
    · cases hc
  · rename_i op t x y yt hop
    have hx := hE x (by simp [hop, Op.operands])
    have hy := hE y (by simp [hop, Op.operands])
    unfold coreBin at hc
    split at hc
    · rename_i e' h0
      injection hc with hc; subst hc
      have := coreNil_ok hI h0 hob hx hy x y
      simpa only [execOp, hop] using this
    · split at hc
      · cases hc
      · split at hc
        · rename_i e' h0
          injection hc with hc; subst hc
          obtain ⟨v, h1, h2, h3⟩ := arith_run (P := P) (t := t) h0 hob hx hy w x y
          refine .pure hI v ?_ h2 h3
          simp only [execOp, hop]
          exact run_v h1
        · exact corePlain_ok hI hE hc
  · rename_i f a b hop
    injection hc with hc; subst hc
    refine .pure hI (.func f (a.map C) (b.map C)) (by simp only [execOp, hop]; rfl) ?_ rfl
    simp only [VR]
    exact ⟨_, _, rfl, by rw [Array.toList_map]; exact VRs.map _ fun x hx => hE x (by simp [hop, Op.operands]; exact .inl (by simpa using hx)), by rw [Array.toList_map]; exact VRs.map _ fun x hx => hE x (by simp [hop, Op.operands]; exact .inr (by simpa using hx))⟩
  · rename_i s x f hop
    split at hc
    case h_2 => cases hc
    rename_i b k hx
    have h1 := hE x (by simp [hop, Op.operands]); rw [hx] at h1
    have := coreFieldAddr_ok hI h1 hc
    simpa only [execOp, hop] using this
  · rename_i s x f hop
    have := coreField_ok hI (hE x (by simp [hop, Op.operands])) hc
    simpa only [execOp, hop] using this
  · rename_i t x i hop
    have := coreIndexAddr_ok hI (hE x (by simp [hop, Op.operands])) (hE i (by simp [hop, Op.operands])) hc hob
    simpa only [execOp, hop] using this
  · rename_i t x i hop
    have := coreIndex_ok hI (hE x (by simp [hop, Op.operands])) (hE i (by simp [hop, Op.operands])) hc hob
    simpa only [execOp, hop] using this
  · rename_i x i hop
    split at hc
    case h_2 => cases hc
    rename_i vs hx
    simp only [Option.map_eq_some_iff] at hc
    obtain ⟨a, ha, rfl⟩ := hc
    have h1 := hE x (by simp [hop, Op.operands])
    rw [hx] at h1
    simp only [VR] at h1
    obtain ⟨us, hC, hus⟩ := h1
    obtain ⟨v, h2, h3⟩ := hus.get i a ha
    refine .pure hI v ?_ h3 rfl
    simp only [execOp, hop, hC]
    refine run_v ?_
    simp only [Instr.extract, show us[i]? = some v by simpa using h2]
    rfl
  · rename_i args ts hop
    split at hc
    case h_2 => cases hc
    rename_i x t hx ht
    unfold lenEff at hc
    split at hc
    · rename_i b k n c hs
      split at hc
      case isFalse => cases hc
      rename_i hst
      injection hc with hc; subst hc
      have hmem : x ∈ o.op.operands := by
        simp only [hop, Op.operands, Call.operands]
        simpa using Array.mem_of_getElem? hx
      have h1 := hE x hmem
      rw [hs] at h1
      have : ∃ ad c', C x = .slice ad n c' := by
        rcases h1.slc_cases with ⟨cb, co, cc, c', _, _, h2⟩ | ⟨h2, ad, h3⟩
        · exact ⟨_, _, h2⟩
        · subst h2; exact ⟨_, _, h3⟩
      obtain ⟨ad, c', hC⟩ := this
      exact .pure hI _ (run_len hop hx ht hst hC w) (by simp [VR]) rfl
    · exact corePlain_ok hI hE hc
  · exact corePlain_ok hI hE hc

end Go.Ab
