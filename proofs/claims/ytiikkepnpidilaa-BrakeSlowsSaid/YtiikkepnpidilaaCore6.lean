/-
  CORE 6: addresses, parts, nil, lengths; the plain rule (operands that hold no address: the machine's own operation is run).
-/
import Derived.Test.YtiikkepnpidilaaCore5
set_option linter.unusedVariables false
set_option linter.unusedSimpArgs false
namespace Go.Ab

/-! ### the plain rule -/
def plainVal (E : Operand → AV) (x : Operand) : Value := ((E x).plain?).getD undef
def isSelect : Op → Bool
  | .select .. => true
  | _ => false
def corePlain (P : Program) (o : Oper) (E : Operand → AV) : Option Eff :=
  if o.op.operands.all (fun x => (E x).plain?.isSome) = true ∧ isSelect o.op = false then
    match still P (execOp (plainVal E) o) with
    | some (.value v) => some { val := ofValue v }
    | _ => none
  else none

theorem corePlain_ok {P : Program} {Γ : Ctx} {ρ : Ren} {h : Heap} {w : World} (hI : Inv Γ ρ h w) {o : Oper} {E : Operand → AV} {C : Operand → Value} (hE : ∀ x ∈ o.op.operands, VR ρ (E x) (C x)) {e : Eff} (hc : corePlain P o E = some e) :
    OpOK P Γ ρ h w (execOp C o) e := by
  unfold corePlain at hc
  split at hc
  · rename_i hall
    have hsel : ∀ cs b, o.op ≠ .select cs b := fun cs b hs => by simp [hs, isSelect] at hall
    have hEC : execOp C o = execOp (plainVal E) o := by
      refine execOp_congr o hsel fun x hx => ?_
      have hp := Array.all_eq_true_iff_forall_mem.1 hall.1 x hx
      obtain ⟨v, hv⟩ := Option.isSome_iff_exists.1 hp
      rw [plainVal, hv]
      exact plain_eq _ hv (hE x hx)
    split at hc
    · rename_i v hs
      injection hc with hc; subst hc
      exact .pure hI v (by rw [hEC]; exact still_run _ hs w) (VR_ofValue ρ v) rfl
    · cases hc
  · cases hc

/-! ### addresses -/
def fieldOf (P : Program) (s : TypeId) (f : Nat) : Option Field :=
  match P.underlying s with
  | some (.struct fs) => fs[f]?
  | _ => none

def coreFieldAddr (P : Program) (s : TypeId) (b o f : Nat) : Option Eff :=
  (fieldOf P s f).bind fun fd => (P.info? fd.type).bind fun i => if i.size = 0 then none else some { val := .ptr b (o + fd.offset) }
theorem coreFieldAddr_ok {P : Program} {Γ : Ctx} {ρ : Ren} {h : Heap} {w : World} (hI : Inv Γ ρ h w) {s : TypeId} {b o f : Nat} {v : Value} (hv : VR ρ (.ptr b o) v) {e : Eff} (hc : coreFieldAddr P s b o f = some e) :
    OpOK P Γ ρ h w (do pure (.value (← Instr.fieldAt s v f))) e := by
  simp only [VR] at hv
  obtain ⟨cb, co, cc, hρ, rfl⟩ := hv
  simp only [coreFieldAddr, fieldOf, Option.bind_eq_some_iff] at hc
  obtain ⟨fd, hfd, i, hi, hc⟩ := hc
  split at hc
  · cases hc
  · rename_i hsz
    injection hc with hc; subst hc
    split at hfd
    · rename_i fs hu
      refine .pure hI (.pointer (some ⟨cb, co + (o + fd.offset), none⟩)) (run_v ?_) (by simp only [VR]; exact ⟨cb, co, cc, hρ, rfl⟩) rfl
      simp only [Instr.fieldAt, Sem.run_bind, run_underlying' hu, Result.andThen, hfd, Instr.sureAddr]
      simp only [fieldPlace, Sem.run_bind, run_size hi, Result.andThen, hsz, if_false, pure, Sem.run, add_lit, Nat.add_assoc]
    · cases hfd

def coreField (P : Program) (s : TypeId) (f : Nat) (a : AV) : Option Eff :=
  match a with
  | .agg cs => (fieldOf P s f).bind fun fd => (partA P fd.type cs fd.offset).map fun r => { val := r }
  | _ => none
theorem coreField_ok {P : Program} {Γ : Ctx} {ρ : Ren} {h : Heap} {w : World} (hI : Inv Γ ρ h w) {s : TypeId} {f : Nat} {a : AV} {v : Value} (hv : VR ρ a v) {e : Eff} (hc : coreField P s f a = some e) :
    OpOK P Γ ρ h w (do pure (.value (← Instr.field s v f))) e := by
  unfold coreField at hc
  split at hc
  · rename_i cs
    simp only [VR] at hv
    obtain ⟨us, rfl, hus⟩ := hv
    simp only [fieldOf, Option.bind_eq_some_iff, Option.map_eq_some_iff] at hc
    obtain ⟨fd, hfd, r, hr, rfl⟩ := hc
    split at hfd
    · rename_i fs hu
      obtain ⟨v, h1, h2⟩ := partA_ok hr hus w
      refine .pure hI v (run_v ?_) h2 rfl
      simp only [Instr.field, Sem.run_bind, run_underlying' hu, Result.andThen, hfd, asAgg]
      exact h1
    · cases hfd
  · cases hc

/-- A condition: reckoned where it can be, else owed. -/
def need (chk : Option Pf) (p : Prop) [Decidable p] (e : Eff) : Option Eff :=
  match chk with
  | some pf => some { e with ob := .prop p pf.p :: e.ob }
  | none => if p then some e else none
theorem need_some {chk : Option Pf} {p : Prop} [Decidable p] {e e' : Eff} (h : need chk p e = some e') (hob : ∀ q ∈ e'.ob, q.holds) : p ∧ (∀ q ∈ e.ob, q.holds) ∧ e'.rb = e.rb ∧ e'.wb = e.wb ∧ e'.val = e.val := by
  unfold need at h
  split at h
  · rename_i pf
    injection h with h; subst h
    exact ⟨cast (Eq.symm (hob _ (List.mem_cons_self ..))) pf.h, fun q hq => hob q (List.mem_cons_of_mem _ hq), rfl, rfl, rfl⟩
  · split at h
    · rename_i hp
      injection h with h; subst h
      exact ⟨hp, hob, rfl, rfl, rfl⟩
    · cases h

def intOfA : AV → Option Int
  | .val (.int _ n) => some n
  | _ => none
theorem intOfA_some {ρ : Ren} {a : AV} {n : Int} {v : Value} (h : intOfA a = some n) (hv : VR ρ a v) : ∃ k, v = .int k n := by
  unfold intOfA at h
  split at h
  · injection h with h; subst h; simp only [VR] at hv; exact ⟨_, hv⟩
  · cases h

def coreIndexAddr (P : Program) (t : TypeId) (x i : AV) (chk : Option Pf) : Option Eff :=
  (intOfA i).bind fun n => match x, P.underlying t with
    | .ptr b o, some (.array len el) => (P.info? el).bind fun ie => need chk (0 ≤ n ∧ n < (len : Int)) { val := .ptr b (o + n.toNat * ie.size) }
    | .slc b o len c, some (.slice el) => (P.info? el).bind fun ie => need chk (0 ≤ n ∧ n < (len : Int)) { val := .ptr b (o + n.toNat * ie.size) }
    | _, _ => none
theorem coreIndexAddr_ok {P : Program} {Γ : Ctx} {ρ : Ren} {h : Heap} {w : World} (hI : Inv Γ ρ h w) {t : TypeId} {x i : AV} {cx ci : Value} (hx : VR ρ x cx) (hi : VR ρ i ci) {chk : Option Pf} {e : Eff} (hc : coreIndexAddr P t x i chk = some e) (hob : ∀ q ∈ e.ob, q.holds) :
    OpOK P Γ ρ h w (do pure (.value (← Instr.indexAt t cx ci))) e := by
  simp only [coreIndexAddr, Option.bind_eq_some_iff] at hc
  obtain ⟨n, hn, hc⟩ := hc
  obtain ⟨k, rfl⟩ := intOfA_some hn hi
  split at hc
  · rename_i b o len el hu
    simp only [Option.bind_eq_some_iff] at hc
    obtain ⟨ie, hie, hc⟩ := hc
    obtain ⟨hp, _, h2, h3, h4⟩ := need_some hc hob
    simp only [VR] at hx
    obtain ⟨cb, co, cc, hρ, rfl⟩ := hx
    refine .pure hI (.pointer (some ⟨cb, co + (o + n.toNat * ie.size), none⟩)) (run_v ?_) (by rw [h4]; simp only [VR]; exact ⟨cb, co, cc, hρ, rfl⟩) h3
    simp only [Instr.indexAt, Sem.run_bind, asIntOf, pure, Sem.run, Result.andThen, run_underlying' hu, Instr.sureAddr, if_pos hp, run_size hie, add_lit, Nat.add_assoc]
  · rename_i b o len c el hu
    simp only [Option.bind_eq_some_iff] at hc
    obtain ⟨ie, hie, hc⟩ := hc
    obtain ⟨hp, _, h2, h3, h4⟩ := need_some hc hob
    have hlen : 0 < len := by omega
    have : ∃ cb co cc c', ρ b = some (cb, co, cc) ∧ cx = .slice (some ⟨cb, co + o, none⟩) len c' := by
      rcases hx.slc_cases with ⟨cb, co, cc, c', h1, _, h2⟩ | ⟨h1, _⟩
      · exact ⟨cb, co, cc, c', h1, h2⟩
      · omega
    obtain ⟨cb, co, cc, c', hρ, rfl⟩ := this
    refine .pure hI (.pointer (some ⟨cb, co + (o + n.toNat * ie.size), none⟩)) (run_v ?_) (by rw [h4]; simp only [VR]; exact ⟨cb, co, cc, hρ, rfl⟩) h3
    simp only [Instr.indexAt, Sem.run_bind, asIntOf, pure, Sem.run, Result.andThen, run_underlying' hu, if_pos hp, run_size hie, add_lit, Nat.add_assoc]
  · cases hc

def coreIndex (P : Program) (t : TypeId) (x i : AV) (chk : Option Pf) : Option Eff :=
  (intOfA i).bind fun n => match x, P.underlying t with
    | .agg cs, some (.array len el) => (P.info? el).bind fun ie => (partA P el cs (n.toNat * ie.size)).bind fun r => need chk (0 ≤ n ∧ n < (len : Int)) { val := r }
    | .val (.string s), some .string => need chk (0 ≤ n ∧ n < (s.size : Int)) { val := .val (.int .u8 ((s.data.toList.getD n.toNat 0).toNat : Int)) }
    | _, _ => none
theorem coreIndex_ok {P : Program} {Γ : Ctx} {ρ : Ren} {h : Heap} {w : World} (hI : Inv Γ ρ h w) {t : TypeId} {x i : AV} {cx ci : Value} (hx : VR ρ x cx) (hi : VR ρ i ci) {chk : Option Pf} {e : Eff} (hc : coreIndex P t x i chk = some e) (hob : ∀ q ∈ e.ob, q.holds) :
    OpOK P Γ ρ h w (do pure (.value (← Instr.index t cx ci))) e := by
  simp only [coreIndex, Option.bind_eq_some_iff] at hc
  obtain ⟨n, hn, hc⟩ := hc
  obtain ⟨k, rfl⟩ := intOfA_some hn hi
  split at hc
  · rename_i cs len el hu
    simp only [Option.bind_eq_some_iff] at hc
    obtain ⟨ie, hie, r, hr, hc⟩ := hc
    obtain ⟨hp, _, h2, h3, h4⟩ := need_some hc hob
    simp only [VR] at hx
    obtain ⟨us, rfl, hus⟩ := hx
    obtain ⟨v, h5, h6⟩ := partA_ok hr hus w
    refine .pure hI v (run_v ?_) (by rw [h4]; exact h6) h3
    simp only [Instr.index, Sem.run_bind, asIntOf, pure, Sem.run, Result.andThen, run_underlying' hu, if_pos hp, run_size hie]
    exact h5
  · rename_i s hu
    obtain ⟨hp, _, h2, h3, h4⟩ := need_some hc hob
    simp only [VR] at hx
    subst hx
    refine .pure hI _ (run_v (v := .int .u8 ((s.data.toList.getD n.toNat 0).toNat : Int)) ?_) (by rw [h4]; simp [VR]) h3
    have hlt : n.toNat < s.size := by omega
    have hg : s[n.toNat]? = some (s.data.toList.getD n.toNat 0) := by
      have hlt' : n.toNat < s.data.toList.length := by simpa using hlt
      rw [List.getD_eq_getElem?_getD, List.getElem?_eq_getElem hlt']
      rw [getElem?_pos s n.toNat hlt]
      rfl
    simp only [Instr.index, Sem.run_bind, asIntOf, pure, Sem.run, Result.andThen, run_underlying' hu, if_pos hp.1, hg]
  · cases hc

/-! ### nil -/
def nonNil (P : Program) (t : TypeId) (a b : AV) (chk : Option Pf) : Option Eff :=
  match a, b, P.underlying t with
  | .ptr _ _, .val (.pointer none), some (.pointer _) => some { val := .any }
  | .slc b o n c, .val (.slice none 0 0), some (.slice el) => need chk (0 < n) { val := .any }
  | .fn _ _ _, .val .nilFunc, some (.func _ _ _) => some { val := .any }
  | .ifc _ _, .val .nilIface, some (.interface _) => some { val := .any }
  | _, _, _ => none
section
variable {P : Program} {t : TypeId} (w : World) (d' : Nat)
theorem equalIn_ptr {el : TypeId} (hd : P.underlying t = some (.pointer el)) (a : Addr) : (Op.equalIn (d' + 1) t (.pointer (some a)) (.pointer none)).run P w = .ok false w := by
  simp only [Op.equalIn, Sem.run_bind, run_underlying' hd, Result.andThen]; rfl
theorem equalIn_slc {el : TypeId} (hd : P.underlying t = some (.slice el)) (a : Addr) (n c : Nat) : (Op.equalIn (d' + 1) t (.slice (some a) n c) (.slice none 0 0)).run P w = .ok false w := by
  simp only [Op.equalIn, Sem.run_bind, run_underlying' hd, Result.andThen]; rfl
theorem equalIn_fn {ps rs : Array TypeId} {v : Bool} (hd : P.underlying t = some (.func ps rs v)) (f : Fn) (a b : Array Value) : (Op.equalIn (d' + 1) t (.func f a b) .nilFunc).run P w = .ok false w := by
  simp only [Op.equalIn, Sem.run_bind, run_underlying' hd, Result.andThen]; rfl
theorem equalIn_ifc {ms} (hd : P.underlying t = some (.interface ms)) (T : TypeId) (v : Value) : (Op.equalIn (d' + 1) t (.iface T v) .nilIface).run P w = .ok false w := by
  simp only [Op.equalIn, Sem.run_bind, run_underlying' hd, Result.andThen]; rfl
end

theorem nonNil_run {P : Program} {ρ : Ren} {t : TypeId} {a b : AV} {x y : Value} {chk : Option Pf} {e : Eff} (hc : nonNil P t a b chk = some e) (hob : ∀ q ∈ e.ob, q.holds) (hx : VR ρ a x) (hy : VR ρ b y) (w : World) (X Y : Operand) :
    (eqGuard .eql t X Y x y = pure () ∧ eqGuard .neq t X Y x y = pure ()) ∧ (Op.equal t x y).run P w = .ok false w ∧ (∀ op, (op = .eql ∨ op = .neq) → binOp op t x y = if op = .eql then (do pure (.bool (← Op.equal t x y))) else (do pure (.bool (!(← Op.equal t x y))))) ∧ e.rb = [] ∧ e.wb = [] := by
  unfold nonNil at hc
  split at hc
  · rename_i hu
    injection hc with hc; subst hc
    simp only [VR] at hx hy
    obtain ⟨cb, co, cc, _, rfl⟩ := hx
    subst hy
    exact ⟨⟨rfl, rfl⟩, equalIn_ptr w 9999 hu _, fun op hop => by rcases hop with rfl | rfl <;> rfl, rfl, rfl⟩
  · rename_i b o n c el hu
    obtain ⟨hp, _, h2, h3, h4⟩ := need_some hc hob
    simp only [VR] at hy
    subst hy
    have : ∃ ad c', x = .slice (some ad) n c' := by
      rcases hx.slc_cases with ⟨cb, co, cc, c', h1, _, h2⟩ | ⟨h1, _⟩
      · exact ⟨_, _, h2⟩
      · omega
    obtain ⟨ad, c', rfl⟩ := this
    exact ⟨⟨rfl, rfl⟩, equalIn_slc w 9999 hu _ _ _, fun op hop => by rcases hop with rfl | rfl <;> rfl, h2, h3⟩
  · rename_i hu
    injection hc with hc; subst hc
    simp only [VR] at hx hy
    obtain ⟨fs, cs, rfl, _⟩ := hx
    subst hy
    exact ⟨⟨rfl, rfl⟩, equalIn_fn w 9999 hu _ _ _, fun op hop => by rcases hop with rfl | rfl <;> rfl, rfl, rfl⟩
  · rename_i hu
    injection hc with hc; subst hc
    simp only [VR] at hx hy
    obtain ⟨v', rfl, _⟩ := hx
    subst hy
    exact ⟨⟨rfl, rfl⟩, equalIn_ifc w 9999 hu _ _, fun op hop => by rcases hop with rfl | rfl <;> rfl, rfl, rfl⟩
  · cases hc

def coreNil (P : Program) (op : BinOp) (t : TypeId) (a b : AV) (chk : Option Pf) : Option Eff :=
  match op with
  | .eql => (nonNil P t a b chk).map fun e => { e with val := .val (.bool false) }
  | .neq => (nonNil P t a b chk).map fun e => { e with val := .val (.bool true) }
  | _ => none
theorem coreNil_ok {P : Program} {Γ : Ctx} {ρ : Ren} {h : Heap} {w : World} (hI : Inv Γ ρ h w) {op : BinOp} {t : TypeId} {a b : AV} {x y : Value} {chk : Option Pf} {e : Eff} (hc : coreNil P op t a b chk = some e) (hob : ∀ q ∈ e.ob, q.holds) (hx : VR ρ a x) (hy : VR ρ b y) (X Y : Operand) :
    OpOK P Γ ρ h w (do pure (.value (← (do eqGuard op t X Y x y; binOp op t x y)))) e := by
  unfold coreNil at hc
  split at hc
  · simp only [Option.map_eq_some_iff] at hc
    obtain ⟨e0, h0, rfl⟩ := hc
    obtain ⟨⟨g1, g2⟩, h1, h2, h3, h4⟩ := nonNil_run h0 hob hx hy w X Y
    refine .pure hI (.bool false) (run_v ?_) (by simp [VR]) h4
    rw [g1, h2 .eql (.inl rfl)]
    simp [Sem.run_bind, h1, Result.andThen, pure, Sem.run]
  · simp only [Option.map_eq_some_iff] at hc
    obtain ⟨e0, h0, rfl⟩ := hc
    obtain ⟨⟨g1, g2⟩, h1, h2, h3, h4⟩ := nonNil_run h0 hob hx hy w X Y
    refine .pure hI (.bool true) (run_v ?_) (by simp [VR]) h4
    rw [g2, h2 .neq (.inr rfl)]
    simp [Sem.run_bind, h1, Result.andThen, pure, Sem.run]
  · cases hc

end Go.Ab
