/- An engine that names no program: what code does to what memory shows, evaluated over abstract values and an abstract heap, and that it is so. -/
import Derived.Test.YtnpmcpodpdimpaaCored
import Derived.Lib.ReflectliteSlice
import Derived.RangeFuncIn
import Derived.RangeFuncRecord
import Derived.RangeFuncNested
import Derived.OpenShut
import Derived.WideShapes
import Derived.ChangeOld
import Derived.Carry
import Derived.ChangeShapes
import Derived.Below
import Derived.RowKit
/-
  CORE 25: functions that only read, whose last argument is a function value with captured variables (boxes, only read).
-/
set_option linter.unusedVariables false
set_option linter.unusedSimpArgs false
namespace Go.Ab

def boxes : (cs : List Sh) → Sh.Ts cs → Nat → List Ent
  | [], _, _ => []
  | s :: l, x, n => .live { cells := .lit (s.cells x.1 n), rw := false } :: boxes l x.2 (n + s.ne)
def boxPtrs : List Sh → Nat → List AV
  | [], _ => []
  | _ :: l, N => .ptr N 0 :: boxPtrs l (N + 1)
def argsC (ss : List Sh) (g : FuncId) (cs : List Sh) (x : Sh.Ts ss) : List AV := Sh.args ss x 0 ++ [.fn (.func g) [] (boxPtrs cs (Sh.nes ss + Sh.nes cs))]
def heapC (ss cs : List Sh) (x : Sh.Ts ss) (xs : Sh.Ts cs) : Heap := Sh.entss ss x ++ (Sh.entss cs xs ++ boxes cs xs (Sh.nes ss))
theorem boxes_length : ∀ (cs : List Sh) (xs : Sh.Ts cs) (n : Nat), (boxes cs xs n).length = cs.length
  | [], _, _ => rfl
  | s :: l, xs, n => by simp [boxes, boxes_length l]
theorem boxes_ro : ∀ (cs : List Sh) (xs : Sh.Ts cs) (n : Nat) (e : Ent), e ∈ boxes cs xs n → ∃ blk : Blk, e = .live blk ∧ blk.rw = false
  | [], _, _, e, h => by simp [boxes] at h
  | s :: l, xs, n, e, h => by
    simp only [boxes, List.mem_cons] at h
    rcases h with h | h
    · subst h; exact ⟨_, rfl, rfl⟩
    · exact boxes_ro l xs.2 _ e h
theorem heapC_ro {ss cs : List Sh} {x : Sh.Ts ss} {xs : Sh.Ts cs} (e : Ent) (h : e ∈ heapC ss cs x xs) : ∃ blk : Blk, e = .live blk ∧ blk.rw = false := by
  simp only [heapC, List.mem_append] at h
  rcases h with h | h | h
  · obtain ⟨blk, h1, h2, _⟩ := entss_live ss x e h; exact ⟨blk, h1, h2⟩
  · obtain ⟨blk, h1, h2, _⟩ := entss_live cs xs e h; exact ⟨blk, h1, h2⟩
  · exact boxes_ro cs xs _ e h
theorem heap_mem {h : Heap} {b : Nat} {blk : Blk} (hb : h.get b = .live blk) : h[b]? = some (.live blk) := by
  simp only [Heap.get, List.getD_eq_getElem?_getD] at hb
  cases hq : h[b]? with
  | none => rw [hq] at hb; cases hb
  | some e => rw [hq] at hb; simp at hb; rw [hb]
theorem heapC_norw {ss cs : List Sh} {x : Sh.Ts ss} {xs : Sh.Ts cs} {b : Nat} {blk : Blk} (hb : Heap.get (heapC ss cs x xs) b = .live blk) : blk.rw = false := by
  obtain ⟨blk', h1, h2⟩ := heapC_ro (ss := ss) (cs := cs) (x := x) (xs := xs) _ (List.mem_of_getElem? (heap_mem hb))
  injection h1 with h1; rw [h1]; exact h2
theorem heapC_length (ss cs : List Sh) (x : Sh.Ts ss) (xs : Sh.Ts cs) : (heapC ss cs x xs).length = Sh.nes ss + Sh.nes cs + cs.length := by
  simp [heapC, entss_length, boxes_length]; omega

/-- Whatever the arguments and what was captured: where the law tells an answer, that is what comes out. -/
def ReadsC (P : Program) (f : FuncId) (ss : List Sh) (g : FuncId) (cs rs : List Sh) (law : Sh.Ts ss → Sh.Ts cs → Option (Sh.Ts rs)) : Prop :=
  ∀ x xs y, law x xs = some y → Does P f (argsC ss g cs x) (heapC ss cs x xs) (outV rs y 0) (heapC ss cs x xs)
def codeLawC (P : Program) (env : Env P) (fuel : Nat) (L : Loops P env.Y) (fn : Func) (c : Code) (ss : List Sh) (g : FuncId) (cs rs : List Sh) (x : Sh.Ts ss) (xs : Sh.Ts cs) : Option (Sh.Ts rs) :=
  codeK P env (Sh.nes ss + Sh.nes cs + cs.length) fuel L [] (.code c) (argsC ss g cs x ++ List.replicate (fn.ntmps - (ss.length + 1)) (.val undef)) (heapC ss cs x xs) fun e t h => outK (P := P) fn rs e t h

theorem ReadsC.of_code {P : Program} (hm : P.follows .mixedOrders = true) {f : FuncId} {fn : Func} {c : Code} (hf : P.funcs[f]? = some fn) (hb : fn.body = some c) (hname : (fn.name == "runtime.NumGoroutine") = false)
    (env : Env P) (fuel : Nat) {L : Loops P env.Y} (hL : L.fit c) {ss : List Sh} {g : FuncId} {cs rs : List Sh} (hrs : Sh.nes rs = 0) (hy : ∀ Γ, env.Y Γ := by exact fun _ => True.intro) : ReadsC P f ss g cs rs (codeLawC P env fuel L fn c ss g cs rs) := by
  intro x xs y hxy ρ w cargs hsim hargs
  unfold codeLawC at hxy
  have hlen0 := heapC_length ss cs x xs
  obtain ⟨e, t1, h1, hk, hn1, hg⟩ := codeK_ok hm fuel L [] (.code c) _ _ _ c hL (.inr rfl) (by omega) hxy
  unfold outK at hk
  split at hk
  case h_2 => cases hk
  rename_i hex
  split at hk
  case h_2 => cases hk
  rename_i vs hvs
  split at hk
  case h_2 => cases hk
  rename_i y' bs cc hview
  obtain ⟨hcc, hk⟩ := ifK_some hk
  injection hk with hk; subst hk
  unfold Invokes
  have hcall : (callFunc f cargs).run P w = .ok (.enter f cargs) w := by
    simp only [callFunc, program, Sem.run_bind, Sem.run, Result.andThen, hf]
    simp only [hname, hb, Option.isNone_some, Bool.false_eq_true, if_false]
    rfl
  rw [hcall]
  simp only
  have hlen := hargs.length
  simp only [argsC, List.length_append, args_length, List.length_singleton] at hlen
  have hro : ∀ b blk, Heap.get (heapC ss cs x xs) b = .live blk → blk.rw = false := fun b blk hb => heapC_norw hb
  have hI : Inv ⟨(heapC ss cs x xs).length, ρ, heapC ss cs x xs, w⟩ ρ (heapC ss cs x xs) w :=
    ⟨hsim, fun _ _ => rfl, rfl, rfl, rfl, rfl, Nat.le_refl _, fun _ _ _ => rfl, fun b blk d hb hd hrw hs => by rw [hro b blk hb] at hrw; cases hrw⟩
  have hV : VRs ρ (argsC ss g cs x ++ List.replicate (fn.ntmps - (ss.length + 1)) (.val undef)) ({ tmps := cargs ++ Array.replicate (fn.ntmps - cargs.size) undef, defers := [] } : Act).tmps.toList := by
    simp only [Array.toList_append, Array.toList_replicate]
    refine hargs.append ?_
    rw [hlen]
    simpa using VRs.replicate (ρ := ρ) (a := .val undef) (v := undef) (by simp [VR]) (fn.ntmps - cargs.size)
  refine calls_of_runs hf hb hg hex hlen0 (hy _) hI hV fun ρ2 w2 a2 g2 g3 => ?_
  obtain ⟨us, cv, k1, k2, k3⟩ := run_results_list (P := P) g2 g3 hvs
  have hva := viewArgs_ok (Q := fun _ => True) g2.sim rs vs us k2 y' bs cc hview (fun b _ => rfl) (fun _ _ => trivial) hcc
  have hout : VR ρ (outV rs y' 0) cv := by
    obtain ⟨c0, hc0, hvv⟩ := hva
    have : c0 = [] := List.length_eq_zero_iff.1 (by rw [hc0, hrs])
    subst this
    refine k3 ρ _ ?_
    have := (hvv ⟨ρ.f, ρ2.base⟩ 0 rfl (fun i d hi => by simp at hi)).1
    exact args_shift rs y' 0 _ (fun k hk => by omega) us this
  have hset := settle hsim hro g2
  exact ⟨cv, k1, ρ, cv, rfl, hout, hset⟩
theorem ReadsC.to {P : Program} {f : FuncId} {ss : List Sh} {g : FuncId} {cs rs : List Sh} {law law' : Sh.Ts ss → Sh.Ts cs → Option (Sh.Ts rs)} (h : ReadsC P f ss g cs rs law) (he : ∀ x xs, law x xs = law' x xs) : ReadsC P f ss g cs rs law' := fun x xs y hxy => h x xs y (by rw [he]; exact hxy)

/-! ### to call it -/
def viewBoxes (H : Nat → Ent) : (cs : List Sh) → List AV → Option (Sh.Ts cs × List Nat × Bool)
  | [], [] => some ((), [], true)
  | s :: l, .ptr b 0 :: as => (match H b with
    | .live blk => (match blk.cells with
      | .lit cells => (match viewC H s cells with
        | some (y, bs, c, []) => (match viewBoxes H l as with
          | some (z, bs', c') => some ((y, z), b :: (bs ++ bs'), c && c')
          | none => none)
        | _ => none)
      | _ => none)
    | _ => none)
  | _, _ => none
def BoxViews (w B : World) (cs : List Sh) (xs : Sh.Ts cs) (vs : List Value) : Prop :=
  ∃ (c d : List (Nat × Nat × Nat)), c.length = Sh.nes cs ∧ d.length = cs.length ∧ ∀ (ρ : Ren) (next N : Nat), ρ.base = B → (∀ (i : Nat) (e : Nat × Nat × Nat), c[i]? = some e → ρ (next + i) = some e) → (∀ (i : Nat) (e : Nat × Nat × Nat), d[i]? = some e → ρ (N + i) = some e) →
    VRs ρ (boxPtrs cs N) vs ∧ (∀ (i : Nat) (blk : Blk), (Sh.entss cs xs)[i]? = some (.live blk) → ∃ e : Nat × Nat × Nat, c[i]? = some e ∧ CellsAt ρ w e.1 e.2.1 blk.cells) ∧ (∀ (i : Nat) (blk : Blk), (boxes cs xs next)[i]? = some (.live blk) → ∃ e : Nat × Nat × Nat, d[i]? = some e ∧ CellsAt ρ w e.1 e.2.1 blk.cells)
theorem viewBoxes_ok {ρ0 : Ren} {h : Heap} {w : World} {H : Nat → Ent} (hs : Sim ρ0 h w) : ∀ (cs : List Sh) (as : List AV) (vs : List Value), VRs ρ0 as vs → ∀ (xs : Sh.Ts cs) (bs : List Nat) (c : Bool), viewBoxes H cs as = some (xs, bs, c) → (∀ b ∈ bs, h.get b = H b) → c = true → BoxViews w ρ0.base cs xs vs
  | [], [], [], _, xs, bs, c, _, _, _ => ⟨[], [], rfl, rfl, fun ρ next N _ _ _ => ⟨by simp [boxPtrs, VRs], fun i blk h => by simp [Sh.entss] at h, fun i blk h => by simp [boxes] at h⟩⟩
  | [], [], _ :: _, hv, _, _, _, _, _, _ => by simp [VRs] at hv
  | [], _ :: _, _, _, _, _, _, h, _, _ => by simp [viewBoxes] at h
  | _ :: _, [], _, _, _, _, _, h, _, _ => by simp [viewBoxes] at h
  | _ :: _, _ :: _, [], hv, _, _, _, _, _, _ => by simp [VRs] at hv
  | s :: l, a :: as, v :: vs, hv, xs, bs, c, hvw, hH, hc => by
    have ha : ∃ b, a = .ptr b 0 := by
      cases a with
      | ptr b o => cases o with
        | zero => exact ⟨b, rfl⟩
        | succ => simp [viewBoxes] at hvw
      | _ => simp [viewBoxes] at hvw
    obtain ⟨b, rfl⟩ := ha
    simp only [VRs] at hv
    simp only [viewBoxes] at hvw
    · skip
      split at hvw
      case h_2 => cases hvw
      rename_i blk hblk
      split at hvw
      case h_2 => cases hvw
      rename_i cells hcells
      split at hvw
      case h_2 => cases hvw
      rename_i y b0 c0 hvc
      split at hvw
      case h_2 => cases hvw
      rename_i z b1 c1 h1
      injection hvw with hvw; injection hvw with e1 e2; injection e2 with e2 e3
      subst e1; subst e2; subst e3
      simp only [Bool.and_eq_true] at hc
      have hb : h.get b = .live blk := by rw [hH b (List.mem_cons_self ..)]; exact hblk
      have hp := hv.1
      simp only [VR] at hp
      obtain ⟨cb, co, cc, hρ, rfl⟩ := hp
      have hca := hs.cells b blk _ hb hρ
      rw [hcells] at hca
      obtain ⟨us, k1, k2⟩ := CellsAt.list cells _ hca
      obtain ⟨v1, v2, g1, g2, ⟨d1, l1, f1⟩⟩ := viewC_ok (Q := fun _ => True) hs s cells us k1 y b0 c0 [] hvc (fun b' hb' => hH b' (List.mem_cons_of_mem _ (List.mem_append.2 (.inl hb')))) (fun _ _ => trivial) hc.1
      have : v2 = [] := by
        cases v2 with
        | nil => rfl
        | cons => simp [VRs] at g2
      subst this
      rw [List.append_nil] at g1
      subst g1
      obtain ⟨d2, q2, l2, m2, f2⟩ := viewBoxes_ok hs l as vs hv.2 z b1 c1 h1 (fun b' hb' => hH b' (List.mem_cons_of_mem _ (List.mem_append.2 (.inr hb')))) hc.2
      refine ⟨d1 ++ d2, (cb, co, cc) :: q2, by simp [Sh.nes, l1, l2], by simp [m2], fun ρ next N hbase hρ1 hρ2 => ?_⟩
      obtain ⟨a1, a2⟩ := f1 ρ next hbase fun i d hi => hρ1 i d (by rw [List.getElem?_append_left]; exact hi; exact (List.getElem?_eq_some_iff.1 hi).1)
      obtain ⟨b1', b2, b3⟩ := f2 ρ (next + s.ne) (N + 1) hbase (fun i d hi => by
        have := hρ1 (s.ne + i) d (by rw [List.getElem?_append_right (by omega), l1, Nat.add_sub_cancel_left]; exact hi)
        rw [Nat.add_assoc]; exact this) (fun i d hi => by
        have := hρ2 (i + 1) d (by simpa using hi)
        rw [show N + 1 + i = N + (i + 1) by omega]; exact this)
      refine ⟨?_, fun i blk' hi => ?_, fun i blk' hi => ?_⟩
      · simp only [boxPtrs, VRs, VR]
        exact ⟨⟨cb, co, cc, by simpa using hρ2 0 _ rfl, rfl⟩, b1'⟩
      · simp only [Sh.entss] at hi
        have el := ents_length s y
        by_cases hil : i < s.ne
        · rw [List.getElem?_append_left (by omega)] at hi
          obtain ⟨d, h3, h4, _⟩ := a2 i blk' hi
          exact ⟨d, by rw [List.getElem?_append_left (by omega)]; exact h3, h4⟩
        · rw [List.getElem?_append_right (by omega), el] at hi
          obtain ⟨d, h3, h4⟩ := b2 (i - s.ne) blk' hi
          exact ⟨d, by rw [List.getElem?_append_right (by omega), l1]; exact h3, h4⟩
      · cases i with
        | zero =>
          simp only [boxes] at hi
          simp at hi; subst hi
          refine ⟨(cb, co, cc), rfl, ?_⟩
          have : ∀ (as : List AV) (vs : List Value), VRs ρ as vs → (∀ (i : Nat) (v : Value), vs[i]? = some v → w.cell? ⟨cb, co + i, none⟩ = some v) → CellsAt ρ w cb co (.lit as) := fun as vs hr hu => CRel.at_ (c := .lit as) hr hu
          exact this _ _ a1 k2
        | succ i =>
          simp only [boxes] at hi
          obtain ⟨d, h3, h4⟩ := b3 i blk' (by simpa using hi)
          exact ⟨d, by simpa using h3, h4⟩

theorem sim_ro {ρ : Ren} {h : Heap} {w : World} (hB : ρ.base.heap.size ≤ w.heap.size) (hO : ∀ i, i < ρ.base.heap.size → w.heap[i]? = ρ.base.heap[i]?) (hro : ∀ b blk, h.get b = .live blk → blk.rw = false)
    (hc : ∀ b blk, h.get b = .live blk → ∃ d, ρ b = some d ∧ CellsAt ρ w d.1 d.2.1 blk.cells) (hd : ∀ b, h.get b = .free → ρ b = none) : Sim ρ h w := by
  have norw : ∀ b blk, h.get b = .live blk → blk.rw = true → False := fun b blk hb hr => by rw [hro b blk hb] at hr; cases hr
  refine ⟨fun b blk hb => ?_, fun b blk c hb hc' => ?_, fun b blk c hb hc' hs => ?_, fun b blk c hb hc' hr => (norw b blk hb hr).elim, fun b b' blk blk' c c' hb hb' hne hc' hd' hr => (norw b blk hb hr).elim, hd, hB, hO, fun b blk c hb hc' hr => (norw b blk hb hr).elim⟩
  · obtain ⟨d, h1, _⟩ := hc b blk hb; exact ⟨d, h1⟩
  · obtain ⟨d, h1, h2⟩ := hc b blk hb
    rw [h1] at hc'; injection hc' with hc'; subst hc'; exact h2
  · obtain ⟨d, h1, h2⟩ := hc b blk hb
    rw [h1] at hc'; injection hc' with hc'; subst hc'
    refine inside_of18 h2 ?_
    rcases hs with hs | hs
    · exact hs
    · exact (norw b blk hb hs.1).elim

def readsCS {P : Program} {β : Type} (ss : List Sh) (g : FuncId) (cs rs : List Sh) (law : Sh.Ts ss → Sh.Ts cs → Option (Sh.Ts rs)) (H : Nat → Ent) (new : Nat) (args : List AV) (K : Eff → Option β) : Option β :=
  match args.drop ss.length with
  | [.fn (.func g') [] caps] => if g' = g then (match viewArgs H ss (args.take ss.length) with
    | some (x, bs, c) => (match viewBoxes H cs caps with
      | some (xs, bs', c') => ifK (c && c') ((law x xs).bind fun y => K { rb := bs ++ bs', val := outV rs y 0 })
      | none => none)
    | none => none) else none
  | _ => none

def ReadsC.summ {P : Program} {f : FuncId} {ss : List Sh} {g : FuncId} {cs rs : List Sh} {law : Sh.Ts ss → Sh.Ts cs → Option (Sh.Ts rs)} (hr : ReadsC P f ss g cs rs law) (hrs : Sh.nes rs = 0) : Summ P where
  f := f
  S := fun H new args K => readsCS (P := P) ss g cs rs law H new args K
  ok := by
    intro β H new args K r hs
    unfold readsCS at hs
    split at hs
    case h_2 => cases hs
    rename_i g' caps hdrop
    split at hs
    case isFalse => cases hs
    rename_i hg
    subst hg
    split at hs
    case h_2 => cases hs
    rename_i x bs c hv
    split at hs
    case h_2 => cases hs
    rename_i xs bs' c' hvb
    obtain ⟨hc, hs⟩ := ifK_some hs
    simp only [Bool.and_eq_true] at hc
    rw [Option.bind_eq_some_iff] at hs
    obtain ⟨y, hy, hs⟩ := hs
    refine ⟨_, hs, fun Γ ρ h w cargs hI hargs hH hn hfree => ?_⟩
    have hH1 : ∀ b ∈ bs, h.get b = H b := fun b hb => hH b (List.mem_append.2 (.inl hb))
    have hH2 : ∀ b ∈ bs', h.get b = H b := fun b hb => hH b (List.mem_append.2 (.inr hb))
    have hsplit : args = args.take ss.length ++ [.fn (.func g') [] caps] := by rw [← hdrop, List.take_append_drop]
    rw [hsplit] at hargs
    obtain ⟨v1, v2, hv12, hr1, hr2⟩ := VRs.split _ _ _ hargs
    cases v2 with
    | nil => simp [VRs] at hr2
    | cons fv rest =>
      simp only [VRs] at hr2
      have hrest : rest = [] := by
        cases rest with
        | nil => rfl
        | cons => simp [VRs] at hr2
      subst hrest
      have hfv := hr2.1
      simp only [VR] at hfv
      obtain ⟨fs', cs', rfl, hfs, hcs⟩ := hfv
      obtain ⟨c1, n1, f1⟩ := viewArgs_ok (Q := fun _ => True) hI.sim ss _ _ hr1 x bs c hv hH1 (fun _ _ => trivial) hc.1
      obtain ⟨c2, d2, n2, m2, f2⟩ := viewBoxes_ok hI.sim cs caps _ hcs xs bs' c' hvb hH2 hc.2
      let ρg : Ren := ⟨fun b => (c1 ++ (c2 ++ d2))[b]?, ρ.base⟩
      obtain ⟨a1, a2⟩ := f1 ρg 0 rfl fun i d hi => by
        show (c1 ++ (c2 ++ d2))[0 + i]? = _
        rw [Nat.zero_add, List.getElem?_append_left (List.getElem?_eq_some_iff.1 hi).1]; exact hi
      obtain ⟨b1, b2, b3⟩ := f2 ρg (Sh.nes ss) (Sh.nes ss + Sh.nes cs) rfl (fun i d hi => by
        show (c1 ++ (c2 ++ d2))[Sh.nes ss + i]? = _
        rw [List.getElem?_append_right (by omega), n1, Nat.add_sub_cancel_left, List.getElem?_append_left (List.getElem?_eq_some_iff.1 hi).1]; exact hi) (fun i d hi => by
        show (c1 ++ (c2 ++ d2))[Sh.nes ss + Sh.nes cs + i]? = _
        rw [List.getElem?_append_right (by omega), n1, List.getElem?_append_right (by omega), n2, show Sh.nes ss + Sh.nes cs + i - Sh.nes ss - Sh.nes cs = i by omega]; exact hi)
      have e1 := entss_length ss x
      have e2 := entss_length cs xs
      have e3 := boxes_length cs xs (Sh.nes ss)
      have hsim : Sim ρg (heapC ss cs x xs) w := by
        refine sim_ro hI.sim.baseLe hI.sim.old (fun b blk hb => heapC_norw hb) (fun b blk hb => ?_) (fun b hb => ?_)
        · have hb := heap_mem hb
          unfold heapC at hb
          by_cases h1 : b < Sh.nes ss
          · rw [List.getElem?_append_left (by omega)] at hb
            obtain ⟨d, h3, h4, _⟩ := a2 b blk hb
            exact ⟨d, by show (c1 ++ (c2 ++ d2))[b]? = _; rw [List.getElem?_append_left (by omega)]; exact h3, h4⟩
          · rw [List.getElem?_append_right (by omega)] at hb
            by_cases h2 : b - Sh.nes ss < Sh.nes cs
            · rw [List.getElem?_append_left (by omega)] at hb
              obtain ⟨d, h3, h4⟩ := b2 _ blk hb
              refine ⟨d, ?_, h4⟩
              show (c1 ++ (c2 ++ d2))[b]? = _
              rw [List.getElem?_append_right (by omega), List.getElem?_append_left (by omega), n1, ← e1]; exact h3
            · rw [List.getElem?_append_right (by omega)] at hb
              obtain ⟨d, h3, h4⟩ := b3 _ blk hb
              refine ⟨d, ?_, h4⟩
              show (c1 ++ (c2 ++ d2))[b]? = _
              rw [List.getElem?_append_right (by omega), List.getElem?_append_right (by omega), n1, n2, ← e1, ← e2]; exact h3
        · show (c1 ++ (c2 ++ d2))[b]? = none
          refine List.getElem?_eq_none ?_
          rcases Nat.lt_or_ge b (heapC ss cs x xs).length with h9 | h9
          · exfalso
            obtain ⟨blk, k1, _⟩ := heapC_ro (ss := ss) (cs := cs) (x := x) (xs := xs) (heapC ss cs x xs)[b] (List.getElem_mem h9)
            simp only [Heap.get, List.getD_eq_getElem?_getD, List.getElem?_eq_getElem h9, Option.getD_some, k1] at hb
            cases hb
          · rw [heapC_length] at h9
            simp; omega
      have hargsg : VRs ρg (argsC ss g' cs x) cargs.toList := by
        rw [hv12]
        refine a1.append ?_
        simp only [VRs, VR]
        exact ⟨⟨fs', cs', rfl, hfs.nil_any, b1⟩, trivial⟩
      refine (hr x xs y hy ρg w cargs hsim hargsg).mono fun e w' ⟨ρg', cv, he, hvv, hJ⟩ => ?_
      obtain ⟨ρ', g1, g2, g3⟩ := after_pure hI (hg := heapC ss cs x xs) (fun b blk hb => heapC_norw hb) (es := []) rfl (by rw [List.append_nil]; exact hJ) hn (fun z h1 h2 => by simp at h2; omega)
      exact ⟨ρ', cv, he, g1, outV_shift rs y 0 0 (fun k hk => by omega) hvv, g3⟩

/-- One of two, by the arguments. -/
def Summ.choose {P : Program} (test : List AV → Bool) (a b : Summ P) (h : b.f = a.f) : Summ P where
  f := a.f
  S := fun H new args K => match test args with
    | true => a.S H new args K
    | false => b.S H new args K
  ok := by
    intro β H new args K r hs
    split at hs
    · exact a.ok H new args K r hs
    · have := b.ok H new args K r hs
      rw [h] at this; exact this
/-- The last argument is this function's value. -/
def lastFn (g : FuncId) (args : List AV) : Bool := match args.getLast? with
  | some (.fn (.func g') _ _) => decide (g' = g)
  | _ => false

end Go.Ab
/-
  CORE 26: functions that only read, and hand out a slice of their own (which may be appended to).
-/
set_option linter.unusedVariables false
set_option linter.unusedSimpArgs false
namespace Go.Ab

def fEnt (e : Sh) (l : List e.T) : Ent := .live { cells := .arr e l, rw := true, grow := some e.w }
/-- Whatever the arguments: where the law tells a list, a slice of these parts comes out, in memory of its own. -/
def ReadsF (P : Program) (f : FuncId) (ss : List Sh) (e : Sh) (law : Sh.Ts ss → Option (List e.T)) : Prop :=
  ∀ x l, law x = some l → Does P f (Sh.args ss x 0) (Sh.entss ss x) (.slc (Sh.nes ss) 0 l.length .unk) (Sh.entss ss x ++ [fEnt e l])

def outF {P : Program} (fn : Func) (n0 : Nat) (e : Sh) (ex : Exit) (t : List AV) (h : Heap) : Option (List e.T) :=
  match okExit ex with
  | true => (match resA P t h fn.results.toList with
    | some [.slc b 0 n .unk] => if n0 ≤ b then (match h.get b with
      | .live { cells := .arr e' l, rw := true, grow := some sz } => (match Sh.same e' e with
        | some hh => if sz = e.w then ifK (decide (n = l.length)) (some (hh.down ▸ l)) else none
        | none => none)
      | _ => none) else none
    | some [.val (.slice none 0 0)] => some []
    | _ => none)
  | false => none
def codeLawF (P : Program) (env : Env P) (fuel : Nat) (L : Loops P env.Y) (fn : Func) (c : Code) (ss : List Sh) (e : Sh) (x : Sh.Ts ss) : Option (List e.T) :=
  codeK P env (Sh.nes ss) fuel L [] (.code c) (Sh.args ss x 0 ++ List.replicate (fn.ntmps - ss.length) (.val undef)) (Sh.entss ss x) fun ex t h => outF (P := P) fn (Sh.nes ss) e ex t h

/-- What was read stands as it stood, and there is one block more. -/
theorem settleF {ρ ρ2 : Ren} {es : List Ent} {h1 : Heap} {w w2 : World} (hS : Sim ρ es w) (hro : ∀ b blk, Heap.get es b = .live blk → blk.rw = false) (hI : Inv ⟨es.length, ρ, es, w⟩ ρ2 h1 w2) {b : Nat} {blk : Blk} (hb : h1.get b = .live blk) (hrw : blk.rw = true) (hcells : ∀ l, blk.cells = .lit l → ∃ vs : List Value, l = vs.map .val) (hrows : ∀ s l, blk.cells ≠ .arrs s l) (hrows2 : ∀ l, blk.cells ≠ .rows l) {c : Nat × Nat × Nat} (hc : ρ2 b = some c) :
    Inv ⟨es.length, ρ, es, w⟩ (ρ.put es.length c) (es ++ [.live blk]) w2 := by
  have hset := settle hS hro hI
  have hfree : ρ es.length = none := hS.dom _ (by simp [Heap.get, List.getD_eq_getElem?_getD])
  have hle := Ren.le_put (c := c) hfree
  have hpn : (ρ.put es.length c) es.length = some c := by simp [Ren.put]
  have hpo : ∀ x, x ≠ es.length → (ρ.put es.length c) x = ρ x := fun x hx => by simp [Ren.put, hx]
  have ent : ∀ x xb, Heap.get (es ++ [.live blk]) x = .live xb → (x < es.length ∧ Heap.get es x = .live xb ∧ xb.rw = false) ∨ (x = es.length ∧ xb = blk) := fun x xb hx => by
    rw [get_snoc] at hx
    split at hx
    · rename_i hl; exact .inl ⟨hl, hx, hro x xb hx⟩
    · split at hx
      · rename_i h2; injection hx with hx; exact .inr ⟨h2, hx.symm⟩
      · cases hx
  have one : ∀ d, (ρ.put es.length c) es.length = some d → d = c := fun d hd => by rw [hpn] at hd; injection hd with hd; exact hd.symm
  have cellsN : CellsAt (ρ.put es.length c) w2 c.1 c.2.1 blk.cells := by
    have := hI.sim.cells b blk c hb hc
    cases hk : blk.cells with
    | lit l =>
      rw [hk] at this
      obtain ⟨vs, rfl⟩ := hcells l hk
      intro i v hi
      obtain ⟨cv, q1, q2⟩ := this i v hi
      refine ⟨cv, q1, ?_⟩
      simp only [List.getElem?_map, Option.map_eq_some_iff] at hi
      obtain ⟨u, _, rfl⟩ := hi
      simpa [VR] using q2
    | sym l => rw [hk] at this; exact this
    | rows l => exact absurd hk (hrows2 l)
    | arr s l => rw [hk] at this; exact this
    | arrs s l => exact absurd hk (hrows s l)
  have notown : ∀ i, ¬ Ctx.owned ⟨es.length, ρ, es, w⟩ i := by
    rintro i ⟨b', blk', c', _, hb', hr', _⟩
    rw [hro b' blk' hb'] at hr'; cases hr'
  have freshN : blk.solid c → w.heap.size ≤ c.1 := fun hs => by
    rcases hI.fresh b blk c hb hc hrw hs with h | h
    · exact h
    · exact absurd h (notown _)
  refine ⟨⟨?_, ?_, ?_, ?_, ?_, ?_, hset.sim.baseLe, hset.sim.old, ?_⟩, ?_, rfl, hI.os, hI.tape, hI.output, hI.size, hI.keep, ?_⟩
  · intro x xb hx
    rcases ent x xb hx with ⟨h1, h2, h3⟩ | ⟨h1, h2⟩
    · rw [hpo x (by omega)]; exact hset.sim.some_ x xb h2
    · subst h1; exact ⟨_, hpn⟩
  · intro x xb d hx hd
    rcases ent x xb hx with ⟨h1, h2, h3⟩ | ⟨h1, h2⟩
    · rw [hpo x (by omega)] at hd; exact (hset.sim.cells x xb d h2 hd).mono hle
    · subst h1; subst h2; rw [one d hd]; exact cellsN
  · intro x xb d hx hd hs
    rcases ent x xb hx with ⟨h1, h2, h3⟩ | ⟨h1, h2⟩
    · rw [hpo x (by omega)] at hd; exact hset.sim.inside x xb d h2 hd hs
    · subst h1; subst h2; rw [one d hd] at hs ⊢; exact hI.sim.inside b xb c hb hc hs
  · intro x xb d hx hd hr hs
    rcases ent x xb hx with ⟨h1, h2, h3⟩ | ⟨h1, h2⟩
    · rw [h3] at hr; cases hr
    · subst h1; subst h2; rw [one d hd] at hs ⊢; exact hI.sim.own b xb c hb hc hr hs
  · intro x y xb yb d e hx hy hne hd he hr hs hs'
    rcases ent x xb hx with ⟨h1, h2, h3⟩ | ⟨h1, h2⟩
    · rw [h3] at hr; cases hr
    · subst h1; subst h2; rw [one d hd] at hs ⊢
      rcases ent y yb hy with ⟨k1, k2, k3⟩ | ⟨k1, k2⟩
      · rw [hpo y (by omega)] at he
        have g1 := hS.inside y yb e k2 he hs'
        have g2 := freshN hs
        omega
      · exact absurd k1.symm hne
  · intro x hx
    rw [get_snoc] at hx
    split at hx
    · rename_i hl; rw [hpo x (by omega)]; exact hS.dom x hx
    · rename_i hl
      split at hx
      · cases hx
      · rename_i h2
        rw [hpo x h2]; exact hS.dom x (by simp [Heap.get, List.getD_eq_getElem?_getD, List.getElem?_eq_none (show es.length ≤ x by omega)])
  · intro x xb d hx hd hr hs
    rcases ent x xb hx with ⟨h1, h2, h3⟩ | ⟨h1, h2⟩
    · rw [h3] at hr; cases hr
    · subst h1; subst h2; rw [one d hd] at hs ⊢
      have := freshN hs
      have := hS.baseLe
      show ρ.base.heap.size ≤ _
      omega
  · intro x hx
    have hx : x < es.length := hx
    exact hpo x (by omega)
  · intro x xb d hx hd hr hs
    rcases ent x xb hx with ⟨h1, h2, h3⟩ | ⟨h1, h2⟩
    · rw [h3] at hr; cases hr
    · subst h1; subst h2; rw [one d hd] at hs ⊢; exact .inl (freshN hs)

theorem ReadsF.core {P : Program} (hm : P.follows .mixedOrders = true) {f : FuncId} {fn : Func} {c : Code} (hf : P.funcs[f]? = some fn) (hb : fn.body = some c) (hname : (fn.name == "runtime.NumGoroutine") = false)
    (env : Env P) (fuel : Nat) {L : Loops P env.Y} (hL : L.fit c) {ss : List Sh} {e : Sh} (hy : ∀ Γ, env.Y Γ) (A : List AV) (hA : A.length = ss.length) (x : Sh.Ts ss) (l : List e.T)
    (hxy : codeK P env (Sh.nes ss) fuel L [] (.code c) (A ++ List.replicate (fn.ntmps - ss.length) (.val undef)) (Sh.entss ss x) (fun ex t h => outF (P := P) fn (Sh.nes ss) e ex t h) = some l)
    (ρ : Ren) (w : World) (cargs : Array Value) (hsim : Sim ρ (Sh.entss ss x) w) (hargs : VRs ρ A cargs.toList) :
    Invokes P f cargs w fun en w' => ∃ ρ' cv, en = .returned cv ∧ VR ρ' (.slc (Sh.nes ss) 0 l.length .unk) cv ∧ Inv ⟨(Sh.entss ss x).length, ρ, Sh.entss ss x, w⟩ ρ' (Sh.entss ss x ++ [fEnt e l]) w' := by
  have hlen0 := entss_length ss x
  obtain ⟨ex, t1, h1, hk, hn1, hg⟩ := codeK_ok hm fuel L [] (.code c) _ _ _ c hL (.inr rfl) (by omega) hxy
  unfold outF at hk
  split at hk
  case h_2 => cases hk
  rename_i hex
  have hcall : (callFunc f cargs).run P w = .ok (.enter f cargs) w := by
    simp only [callFunc, program, Sem.run_bind, Sem.run, Result.andThen, hf]
    simp only [hname, hb, Option.isNone_some, Bool.false_eq_true, if_false]
    rfl
  have hlen := hargs.length
  rw [hA] at hlen
  have hro : ∀ b blk, Heap.get (Sh.entss ss x) b = .live blk → blk.rw = false := fun b blk hb => entss_norw hb
  have hI : Inv ⟨(Sh.entss ss x).length, ρ, Sh.entss ss x, w⟩ ρ (Sh.entss ss x) w :=
    ⟨hsim, fun _ _ => rfl, rfl, rfl, rfl, rfl, Nat.le_refl _, fun _ _ _ => rfl, fun b blk d hb hd hrw hs => by rw [hro b blk hb] at hrw; cases hrw⟩
  have hV : VRs ρ (A ++ List.replicate (fn.ntmps - ss.length) (.val undef)) ({ tmps := cargs ++ Array.replicate (fn.ntmps - cargs.size) undef, defers := [] } : Act).tmps.toList := by
    simp only [Array.toList_append, Array.toList_replicate]
    refine hargs.append ?_
    rw [hlen]
    simpa using VRs.replicate (ρ := ρ) (a := .val undef) (v := undef) (by simp [VR]) (fn.ntmps - cargs.size)
  have fin : ∀ vs, resA P t1 h1 fn.results.toList = some vs → (∀ ρ2 w2 cv, Inv ⟨(Sh.entss ss x).length, ρ, Sh.entss ss x, w⟩ ρ2 h1 w2 → VR ρ2 (resV vs) cv → ∃ ρ', VR ρ' (.slc (Sh.nes ss) 0 l.length .unk) cv ∧ Inv ⟨(Sh.entss ss x).length, ρ, Sh.entss ss x, w⟩ ρ' (Sh.entss ss x ++ [fEnt e l]) w2) →
      Invokes P f cargs w fun en w' => ∃ ρ' cv, en = .returned cv ∧ VR ρ' (.slc (Sh.nes ss) 0 l.length .unk) cv ∧ Inv ⟨(Sh.entss ss x).length, ρ, Sh.entss ss x, w⟩ ρ' (Sh.entss ss x ++ [fEnt e l]) w' := by
    intro vs hvs hend
    unfold Invokes
    rw [hcall]
    simp only
    refine calls_of_runs hf hb hg hex hlen0 (hy _) hI hV fun ρ2 w2 a2 g2 g3 => ?_
    obtain ⟨us, cv, k1, k2, k3⟩ := run_results_list (P := P) g2 g3 hvs
    obtain ⟨ρ', h7, h8⟩ := hend ρ2 w2 cv g2 (k3 ρ2 vs k2)
    exact ⟨cv, k1, ρ', cv, rfl, h7, h8⟩
  split at hk
  · rename_i b n hvs
    split at hk
    case isFalse => cases hk
    rename_i hbn
    split at hk
    case h_2 => cases hk
    rename_i e' l' sz hget
    split at hk
    case h_2 => cases hk
    rename_i hh _
    obtain ⟨hh⟩ := hh
    subst hh
    split at hk
    case isFalse => cases hk
    rename_i hsz
    subst hsz
    obtain ⟨hn, hk⟩ := ifK_some hk
    have hn : n = l'.length := by simpa using hn
    injection hk with hk
    have hk : l' = l := hk
    subst hk
    refine fin _ hvs fun ρ2 w2 cv g2 hv => ?_
    obtain ⟨d, hd⟩ := g2.sim.some_ b _ hget
    have hS := settleF hsim hro g2 hget rfl (fun _ => by simp) (fun _ _ => by simp) (fun _ => by simp) hd
    refine ⟨_, ?_, hS⟩
    rw [hlen0]
    have hv : VR ρ2 (.slc b 0 n .unk) cv := hv
    simp only [VR] at hv ⊢
    rw [← hn]
    rcases hv with ⟨cb, co, cc, c', q1, q2, q3, q4⟩ | hv
    · rw [hd] at q1
      exact .inl ⟨cb, co, cc, c', by simpa [Ren.put] using q1, q2, q3, q4⟩
    · exact .inr hv
  · rename_i hvs
    injection hk with hk
    subst hk
    refine fin _ hvs fun ρ2 w2 cv g2 hv => ?_
    have hset := settle hsim hro g2
    have hfree : Heap.get (Sh.entss ss x) (Sh.entss ss x).length = .free := by simp [Heap.get, List.getD_eq_getElem?_getD]
    obtain ⟨q1, q2⟩ := hset.addEmpty (Nat.le_refl _) hfree (.arr e []) rfl (fun _ _ _ _ => by intro i v hi; simp [Sh.flatl] at hi) (some e.w)
    refine ⟨_, ?_, q2.congr fun z => ?_⟩
    · have hv : VR ρ2 (.val (.slice none 0 0)) cv := hv
      simp only [VR] at hv ⊢
      exact .inr ⟨rfl, none, hv⟩
    · rw [get_snoc, Heap.get_upd]
      by_cases h1 : z = (Sh.entss ss x).length
      · rw [if_pos h1, if_neg (by omega), if_pos h1]; rfl
      · rw [if_neg h1]
        split
        · rfl
        · simp [Heap.get, List.getD_eq_getElem?_getD, List.getElem?_eq_none (show (Sh.entss ss x).length ≤ z by omega)]
  · cases hk
theorem ReadsF.of_code {P : Program} (hm : P.follows .mixedOrders = true) {f : FuncId} {fn : Func} {c : Code} (hf : P.funcs[f]? = some fn) (hb : fn.body = some c) (hname : (fn.name == "runtime.NumGoroutine") = false)
    (env : Env P) (fuel : Nat) {L : Loops P env.Y} (hL : L.fit c) {ss : List Sh} {e : Sh} (hy : ∀ Γ, env.Y Γ := by exact fun _ => True.intro) : ReadsF P f ss e (codeLawF P env fuel L fn c ss e) := by
  intro x l hxy ρ w cargs hsim hargs
  exact ReadsF.core hm hf hb hname env fuel hL hy _ (args_length ss x 0) x l hxy ρ w cargs hsim hargs
/-- Of one slice, which may be nil: by the code for nil, and by that for what is not nil. -/
theorem ReadsF.of_two {P : Program} (hm : P.follows .mixedOrders = true) {f : FuncId} {fn : Func} {c : Code} (hf : P.funcs[f]? = some fn) (hb : fn.body = some c) (hname : (fn.name == "runtime.NumGoroutine") = false)
    (env : Env P) (fuel : Nat) {L : Loops P env.Y} (hL : L.fit c) {e : Sh} {law : Sh.Ts [.sl e] → Option (List e.T)}
    (h0 : codeK P env 1 fuel L [] (.code c) ([.val (.slice none 0 0)] ++ List.replicate (fn.ntmps - 1) (.val undef)) (Sh.entss [.sl e] ([], ())) (fun ex t h => outF (P := P) fn 1 e ex t h) = law ([], ()))
    (h1 : ∀ x : List e.T, codeK P env 1 fuel L [] (.code c) ([.slc 0 0 x.length .nn] ++ List.replicate (fn.ntmps - 1) (.val undef)) (Sh.entss [.sl e] (x, ())) (fun ex t h => outF (P := P) fn 1 e ex t h) = law (x, ())) (hy : ∀ Γ, env.Y Γ := by exact fun _ => True.intro) : ReadsF P f [.sl e] e law := by
  rintro ⟨x, u⟩ l hxy ρ w cargs hsim hargs
  have hv : ∃ v, cargs.toList = [v] ∧ VR ρ (.slc 0 0 x.length .low) v := by
    have hl := hargs.length
    match hc : cargs.toList, hl with
    | [v], _ =>
      rw [hc] at hargs
      exact ⟨v, rfl, hargs.1⟩
  obtain ⟨v, hc, hv⟩ := hv
  rcases hv.low_cases with ⟨hn, hv0⟩ | hv
  · have hx : x = [] := List.length_eq_zero_iff.1 hn
    subst hx
    exact ReadsF.core (ss := [.sl e]) hm hf hb hname env fuel hL hy [.val (.slice none 0 0)] rfl ([], u) l (h0.trans hxy) ρ w cargs hsim (by rw [hc]; simp only [VRs, VR]; exact ⟨hv0, trivial⟩)
  · exact ReadsF.core (ss := [.sl e]) hm hf hb hname env fuel hL hy [.slc 0 0 x.length .nn] rfl (x, u) l ((h1 x).trans hxy) ρ w cargs hsim (by rw [hc]; exact ⟨hv, trivial⟩)
theorem ReadsF.to {P : Program} {f : FuncId} {ss : List Sh} {e : Sh} {law law' : Sh.Ts ss → Option (List e.T)} (h : ReadsF P f ss e law) (he : ∀ x, law x = law' x) : ReadsF P f ss e law' := fun x y hxy => h x y (by rw [he]; exact hxy)

def readsFS {P : Program} {β : Type} (ss : List Sh) (e : Sh) (law : Sh.Ts ss → Option (List e.T)) (H : Nat → Ent) (new : Nat) (args : List AV) (K : Eff → Option β) : Option β :=
  match viewArgs H ss args with
  | some (x, bs, c) => ifK c ((law x).bind fun l => K { rb := bs, wb := [(new, fEnt e l)], nw := 1, val := .slc new 0 l.length .unk })
  | none => none
def ReadsF.summ {P : Program} {f : FuncId} {ss : List Sh} {e : Sh} {law : Sh.Ts ss → Option (List e.T)} (hr : ReadsF P f ss e law) : Summ P where
  f := f
  S := fun H new args K => readsFS (P := P) ss e law H new args K
  ok := by
    intro β H new args K r hs
    unfold readsFS at hs
    split at hs
    case h_2 => cases hs
    rename_i x bs c hv
    obtain ⟨hc, hs⟩ := ifK_some hs
    rw [Option.bind_eq_some_iff] at hs
    obtain ⟨l, hl, hs⟩ := hs
    refine ⟨_, hs, fun Γ ρ h w cargs hI hargs hH hn hfree => ?_⟩
    obtain ⟨ρg, _, h1, h2, _⟩ := sim_views hI.sim.baseLe hI.sim.old (viewArgs_ok (Q := fun _ => True) hI.sim ss args _ hargs x bs c hv hH (fun _ _ => trivial) hc)
    refine (hr x l hl ρg w cargs h2 h1).mono fun en w' ⟨ρg', cv, he, hvv, hJ⟩ => ?_
    obtain ⟨ρ', g1, g2, g3⟩ := after_pure hI (hg := Sh.entss ss x) (fun b blk hb => entss_norw hb) (es := [fEnt e l]) rfl hJ hn hfree
    refine ⟨ρ', cv, he, g1, ?_, g3⟩
    have q := g2 0 (by simp)
    simp only [Nat.add_zero, entss_length] at q
    simp only [VR] at hvv ⊢
    rw [q]; exact hvv

end Go.Ab
/-
  CORE 27: internal/reflectlite's ValueOf and Len at a slice; functions whose first argument is a slice as an interface's value, whose last one is a function value with captured variables.
-/
set_option linter.unusedVariables false
set_option linter.unusedSimpArgs false
namespace Go.Ab

/-! ### reflectlite.ValueOf, (Value).Len -/
def isSlcI (P : Program) (t : TypeId) : Bool := match P.info? t with
  | some i => (match i.desc with
    | .slice _ => true
    | _ => false)
  | none => false
theorem isSlcI_ok {P : Program} {t : TypeId} (h : isSlcI P t = true) : ∃ i e, P.info? t = some i ∧ i.desc = .slice e := by
  unfold isSlcI at h
  split at h
  · rename_i i hi
    split at h
    · rename_i e he; exact ⟨i, e, hi, he⟩
    · cases h
  · cases h
def valueOfS (P : Program) {β : Type} (H : Nat → Ent) (new : Nat) (args : List AV) (K : Eff → Option β) : Option β :=
  match args with
  | [.ifc t (.slc b o n c)] => if isSlcI P t = true then K { wb := [(new, newBlk [.slc b o n c])], nw := 1, val := .agg [.val (.pointer (some ⟨P.globals.size, t, none⟩)), .ptr new 0, .val (.int .u64 151)] } else none
  | _ => none
def valueOfSumm {P : Program} (f : FuncId) {fn : Func} (hf : P.funcs[f]? = some fn) (hname : (fn.name == "runtime.NumGoroutine") = false) (hb : fn.body.isNone = true) (hn : Extern.findNext fn = none) (he : Extern.find fn = some (fun args => Extern.ReflectliteValue.unpack (args.getD 0 (.tuple #[])))) : Summ P where
  f := f
  S := fun H new args K => valueOfS P H new args K
  ok := by
    intro β H new args K r hs
    unfold valueOfS at hs
    split at hs
    case h_2 => cases hs
    rename_i t b o n c
    split at hs
    case isFalse => cases hs
    rename_i ht
    obtain ⟨i, e, hi, hd⟩ := isSlcI_ok ht
    refine ⟨_, hs, fun Γ ρ h w cargs hI hargs hH hn0 hfree => ?_⟩
    obtain ⟨l, hl⟩ : ∃ l, cargs.toList = l := ⟨_, rfl⟩
    rw [hl] at hargs
    match l, hargs with
    | [x], hx =>
      simp only [VRs, VR] at hx
      obtain ⟨⟨v', rfl, hv⟩, _⟩ := hx
      have hc : cargs = #[.iface t v'] := Array.toList_inj.1 hl
      subst hc
      obtain ⟨p, m, c', rfl⟩ : ∃ p m c', v' = .slice p m c' := by
        rcases VR.slc_cases hv with ⟨cb, co, cc, c', _, _, rfl⟩ | ⟨_, a, rfl⟩
        · exact ⟨_, _, _, rfl⟩
        · exact ⟨_, _, _, rfl⟩
      obtain ⟨ρ', h1, h2, h3⟩ := alloc_lit hI hn0 (hfree new (Nat.le_refl _) (by simp)) t (l := [.slc b o n c]) (cs := #[.slice p m c']) (by simp only [VRs]; exact ⟨hv, trivial⟩)
      unfold Invokes
      rw [run_callFunc_extern hf hname hb hn he]
      have hr := Go.Lib.run_valueOf_slice (P := P) t e i hi hd p m c' w
      have hg : (#[Value.iface t (.slice p m c')].getD 0 (.tuple #[])) = .iface t (.slice p m c') := rfl
      simp only [hg, hr, Result.andThen]
      refine ⟨ρ', _, rfl, h1, ?_, h3⟩
      simp only [VR]
      refine ⟨_, rfl, ?_⟩
      simp only [VRs, VR]
      exact ⟨rfl, ⟨_, _, _, h2, rfl⟩, trivial, trivial⟩
    | [], hx => simp [VRs] at hx
    | _ :: _ :: _, hx => simp [VRs] at hx
def firstSlc : Ent → Option AV
  | .live blk => (match blk.cells with
    | .lit (.slc b o n c :: _) => some (.slc b o n c)
    | _ => none)
  | _ => none
def valueLenS (P : Program) {β : Type} (H : Nat → Ent) (new : Nat) (args : List AV) (K : Eff → Option β) : Option β :=
  match args with
  | [.agg [.val (.pointer (some ⟨g, t, none⟩)), .ptr b 0, .val (.int .u64 151)]] => if isSlcI P t = true ∧ P.packed t = false ∧ g = P.globals.size then (match firstSlc (H b) with
    | some (.slc _ _ n _) => K { rb := [b], val := .val (.int .i64 (n : Int)) }
    | _ => none) else none
  | _ => none
def valueLenSumm {P : Program} (f : FuncId) {fn : Func} (hf : P.funcs[f]? = some fn) (hname : (fn.name == "runtime.NumGoroutine") = false) (hb : fn.body.isNone = true) (hn : Extern.findNext fn = none) (he : Extern.find fn = some (Extern.ReflectliteValue.method (Extern.ReflectliteValue.valueError "reflectlite.Value.Len" 0) Extern.ReflectliteValue.len)) : Summ P where
  f := f
  S := fun H new args K => valueLenS P H new args K
  ok := by
    intro β H new args K r hs
    unfold valueLenS at hs
    split at hs
    case h_2 => cases hs
    rename_i g t b
    split at hs
    case isFalse => cases hs
    rename_i hc
    obtain ⟨ht, hpk, rfl⟩ := hc
    obtain ⟨i, e, hi, hd⟩ := isSlcI_ok ht
    split at hs
    case h_2 => cases hs
    rename_i b' o' n' c' hcell
    refine ⟨_, hs, fun Γ ρ h w cargs hI hargs hH hn0 hfree => ?_⟩
    obtain ⟨l, hl⟩ : ∃ l, cargs.toList = l := ⟨_, rfl⟩
    rw [hl] at hargs
    match l, hargs with
    | [x], hx =>
      simp only [VRs, VR] at hx
      obtain ⟨⟨cs', rfl, hv⟩, _⟩ := hx
      obtain ⟨l2, hl2⟩ : ∃ l, cs'.toList = l := ⟨_, rfl⟩
      rw [hl2] at hv
      match l2, hv with
      | [x1, x2, x3], hv =>
        simp only [VRs, VR] at hv
        obtain ⟨rfl, ⟨cb, co, cc, hρ, rfl⟩, rfl, _⟩ := hv
        have hc1 : cs' = #[.pointer (some ⟨P.globals.size, t, none⟩), .pointer (some ⟨cb, co + 0, none⟩), .int .u64 151] := Array.toList_inj.1 hl2
        subst hc1
        have hc : cargs = #[.agg #[.pointer (some ⟨P.globals.size, t, none⟩), .pointer (some ⟨cb, co + 0, none⟩), .int .u64 151]] := Array.toList_inj.1 hl
        subst hc
        have hb' := hH b (by simp)
        unfold firstSlc at hcell
        split at hcell
        case h_2 => cases hcell
        rename_i blk hblk
        split at hcell
        case h_2 => cases hcell
        rename_i b2 o2 n2 c2 rest hcells
        injection hcell with hcell
        have hlive : h.get b = .live blk := by rw [hb']; exact hblk
        have hat := hI.sim.cells b blk _ hlive hρ
        rw [hcells] at hat
        obtain ⟨cv, k1, k2⟩ := hat 0 _ rfl
        rw [hcell] at k2
        obtain ⟨p, c3, rfl⟩ : ∃ p c3, cv = .slice p n' c3 := by
          rcases VR.slc_cases k2 with ⟨_, _, _, c3, _, _, rfl⟩ | ⟨rfl, a, rfl⟩
          · exact ⟨_, _, rfl⟩
          · exact ⟨_, _, rfl⟩
        unfold Invokes
        rw [run_callFunc_extern hf hname hb hn he]
        have hr := Go.Lib.run_valueLen_slice (P := P) t e i hi hd hpk ⟨cb, co + 0, none⟩ p n' c3 w k1
        simp only [typeHandle] at hr
        rw [hr]
        simp only [Result.andThen]
        exact ⟨ρ, _, rfl, ρ.le_refl, by simp [VR], by simpa [Heap.upds] using hI⟩
      | [], hv => simp [VRs] at hv
      | [_], hv => simp [VRs] at hv
      | [_, _], hv => simp [VRs] at hv
      | _ :: _ :: _ :: _ :: _, hv => simp [VRs] at hv
    | [], hx => simp [VRs] at hx
    | _ :: _ :: _, hx => simp [VRs] at hx

/-! ### arguments that are interfaces' values -/
def unifc (t : TypeId) : List AV → Option (List AV)
  | [] => some []
  | .ifc t' a :: l => if t' = t then (unifc t l).map (a :: ·) else none
  | _ :: _ => none
theorem VRs.unifc {ρ : Ren} {t : TypeId} : ∀ {as bs : List AV} {vs : List Value}, Go.Ab.unifc t as = some bs → VRs ρ as vs → ∃ us, vs = us.map (.iface t) ∧ VRs ρ bs us
  | [], bs, [], h, _ => by simp [Go.Ab.unifc] at h; subst h; exact ⟨[], rfl, trivial⟩
  | [], _, _ :: _, _, h => by simp [VRs] at h
  | a :: as, bs, vs, h, hv => by
    unfold Go.Ab.unifc at h
    split at h
    · rename_i heq; cases heq
    · rename_i t' a' l heq
      injection heq with h1 h2
      subst h1; subst h2
      split at h
      case isFalse => cases h
      rename_i ht
      subst ht
      simp only [Option.map_eq_some_iff] at h
      obtain ⟨l', hl, rfl⟩ := h
      match vs, hv with
      | v :: vs, hv =>
        simp only [VRs, VR] at hv
        obtain ⟨⟨v', rfl, h1⟩, h2⟩ := hv
        obtain ⟨us, rfl, h3⟩ := VRs.unifc hl h2
        exact ⟨v' :: us, rfl, by simp only [VRs]; exact ⟨h1, h3⟩⟩
      | [], hv => simp [VRs] at hv
    · cases h
theorem VRs.ifc {ρ : Ren} {t : TypeId} : ∀ {bs : List AV} {us : List Value}, VRs ρ bs us → VRs ρ (bs.map (.ifc t)) (us.map (.iface t))
  | [], [], _ => trivial
  | b :: bs, u :: us, h => by
    simp only [VRs, List.map_cons, VR] at *
    exact ⟨⟨u, rfl, h.1⟩, VRs.ifc h.2⟩
  | [], _ :: _, h => by simp [VRs] at h
  | _ :: _, [], h => by simp [VRs] at h
def argsI (t : TypeId) (ss : List Sh) (g : FuncId) (cs : List Sh) (x : Sh.Ts ss) : List AV := (Sh.args ss x 0).map (.ifc t) ++ [.fn (.func g) [] (boxPtrs cs (Sh.nes ss + Sh.nes cs))]
/-- Whatever the arguments and what was captured: where the law tells an answer, that is what comes out. -/
def ReadsI (P : Program) (f : FuncId) (t : TypeId) (ss : List Sh) (g : FuncId) (cs rs : List Sh) (law : Sh.Ts ss → Sh.Ts cs → Option (Sh.Ts rs)) : Prop :=
  ∀ x xs y, law x xs = some y → Does P f (argsI t ss g cs x) (heapC ss cs x xs) (outV rs y 0) (heapC ss cs x xs)
def codeLawI (P : Program) (env : Env P) (fuel : Nat) (L : Loops P env.Y) (fn : Func) (c : Code) (t : TypeId) (ss : List Sh) (g : FuncId) (cs rs : List Sh) (x : Sh.Ts ss) (xs : Sh.Ts cs) : Option (Sh.Ts rs) :=
  codeK P env (Sh.nes ss + Sh.nes cs + cs.length) fuel L [] (.code c) (argsI t ss g cs x ++ List.replicate (fn.ntmps - (ss.length + 1)) (.val undef)) (heapC ss cs x xs) fun e t h => outK (P := P) fn rs e t h

theorem ReadsI.of_code {P : Program} (hm : P.follows .mixedOrders = true) {f : FuncId} {fn : Func} {c : Code} (hf : P.funcs[f]? = some fn) (hb : fn.body = some c) (hname : (fn.name == "runtime.NumGoroutine") = false)
    (env : Env P) (fuel : Nat) {L : Loops P env.Y} (hL : L.fit c) {t : TypeId} {ss : List Sh} {g : FuncId} {cs rs : List Sh} (hrs : Sh.nes rs = 0) (hy : ∀ Γ, env.Y Γ := by exact fun _ => True.intro) : ReadsI P f t ss g cs rs (codeLawI P env fuel L fn c t ss g cs rs) := by
  intro x xs y hxy ρ w cargs hsim hargs
  unfold codeLawI at hxy
  have hlen0 := heapC_length ss cs x xs
  obtain ⟨e, t1, h1, hk, hn1, hg⟩ := codeK_ok hm fuel L [] (.code c) _ _ _ c hL (.inr rfl) (by omega) hxy
  unfold outK at hk
  split at hk
  case h_2 => cases hk
  rename_i hex
  split at hk
  case h_2 => cases hk
  rename_i vs hvs
  split at hk
  case h_2 => cases hk
  rename_i y' bs cc hview
  obtain ⟨hcc, hk⟩ := ifK_some hk
  injection hk with hk; subst hk
  unfold Invokes
  have hcall : (callFunc f cargs).run P w = .ok (.enter f cargs) w := by
    simp only [callFunc, program, Sem.run_bind, Sem.run, Result.andThen, hf]
    simp only [hname, hb, Option.isNone_some, Bool.false_eq_true, if_false]
    rfl
  rw [hcall]
  simp only
  have hlen := hargs.length
  simp only [argsI, List.length_append, List.length_map, args_length, List.length_singleton] at hlen
  have hro : ∀ b blk, Heap.get (heapC ss cs x xs) b = .live blk → blk.rw = false := fun b blk hb => heapC_norw hb
  have hI : Inv ⟨(heapC ss cs x xs).length, ρ, heapC ss cs x xs, w⟩ ρ (heapC ss cs x xs) w :=
    ⟨hsim, fun _ _ => rfl, rfl, rfl, rfl, rfl, Nat.le_refl _, fun _ _ _ => rfl, fun b blk d hb hd hrw hs => by rw [hro b blk hb] at hrw; cases hrw⟩
  have hV : VRs ρ (argsI t ss g cs x ++ List.replicate (fn.ntmps - (ss.length + 1)) (.val undef)) ({ tmps := cargs ++ Array.replicate (fn.ntmps - cargs.size) undef, defers := [] } : Act).tmps.toList := by
    simp only [Array.toList_append, Array.toList_replicate]
    refine hargs.append ?_
    rw [hlen]
    simpa using VRs.replicate (ρ := ρ) (a := .val undef) (v := undef) (by simp [VR]) (fn.ntmps - cargs.size)
  refine calls_of_runs hf hb hg hex hlen0 (hy _) hI hV fun ρ2 w2 a2 g2 g3 => ?_
  obtain ⟨us, cv, k1, k2, k3⟩ := run_results_list (P := P) g2 g3 hvs
  have hva := viewArgs_ok (Q := fun _ => True) g2.sim rs vs us k2 y' bs cc hview (fun b _ => rfl) (fun _ _ => trivial) hcc
  have hout : VR ρ (outV rs y' 0) cv := by
    obtain ⟨c0, hc0, hvv⟩ := hva
    have : c0 = [] := List.length_eq_zero_iff.1 (by rw [hc0, hrs])
    subst this
    refine k3 ρ _ ?_
    have := (hvv ⟨ρ.f, ρ2.base⟩ 0 rfl (fun i d hi => by simp at hi)).1
    exact args_shift rs y' 0 _ (fun k hk => by omega) us this
  have hset := settle hsim hro g2
  exact ⟨cv, k1, ρ, cv, rfl, hout, hset⟩
theorem ReadsI.to {P : Program} {f : FuncId} {t : TypeId} {ss : List Sh} {g : FuncId} {cs rs : List Sh} {law law' : Sh.Ts ss → Sh.Ts cs → Option (Sh.Ts rs)} (h : ReadsI P f t ss g cs rs law) (he : ∀ x xs, law x xs = law' x xs) : ReadsI P f t ss g cs rs law' := fun x xs y hxy => h x xs y (by rw [he]; exact hxy)

def readsIS {P : Program} {β : Type} (t : TypeId) (ss : List Sh) (g : FuncId) (cs rs : List Sh) (law : Sh.Ts ss → Sh.Ts cs → Option (Sh.Ts rs)) (H : Nat → Ent) (new : Nat) (args : List AV) (K : Eff → Option β) : Option β :=
  match args.drop ss.length with
  | [.fn (.func g') [] caps] => if g' = g then (match unifc t (args.take ss.length) with
    | some as => (match viewArgs H ss as with
      | some (x, bs, c) => (match viewBoxes H cs caps with
        | some (xs, bs', c') => ifK (c && c') ((law x xs).bind fun y => K { rb := bs ++ bs', val := outV rs y 0 })
        | none => none)
      | none => none)
    | none => none) else none
  | _ => none

def ReadsI.summ {P : Program} {f : FuncId} {t : TypeId} {ss : List Sh} {g : FuncId} {cs rs : List Sh} {law : Sh.Ts ss → Sh.Ts cs → Option (Sh.Ts rs)} (hr : ReadsI P f t ss g cs rs law) (hrs : Sh.nes rs = 0) : Summ P where
  f := f
  S := fun H new args K => readsIS (P := P) t ss g cs rs law H new args K
  ok := by
    intro β H new args K r hs
    unfold readsIS at hs
    split at hs
    case h_2 => cases hs
    rename_i g' caps hdrop
    split at hs
    case isFalse => cases hs
    rename_i hg
    subst hg
    split at hs
    case h_2 => cases hs
    rename_i as has
    split at hs
    case h_2 => cases hs
    rename_i x bs c hv
    split at hs
    case h_2 => cases hs
    rename_i xs bs' c' hvb
    obtain ⟨hc, hs⟩ := ifK_some hs
    simp only [Bool.and_eq_true] at hc
    rw [Option.bind_eq_some_iff] at hs
    obtain ⟨y, hy, hs⟩ := hs
    refine ⟨_, hs, fun Γ ρ h w cargs hI hargs hH hn hfree => ?_⟩
    have hH1 : ∀ b ∈ bs, h.get b = H b := fun b hb => hH b (List.mem_append.2 (.inl hb))
    have hH2 : ∀ b ∈ bs', h.get b = H b := fun b hb => hH b (List.mem_append.2 (.inr hb))
    have hsplit : args = args.take ss.length ++ [.fn (.func g') [] caps] := by rw [← hdrop, List.take_append_drop]
    rw [hsplit] at hargs
    obtain ⟨v1, v2, hv12, hr1, hr2⟩ := VRs.split _ _ _ hargs
    cases v2 with
    | nil => simp [VRs] at hr2
    | cons fv rest =>
      simp only [VRs] at hr2
      have hrest : rest = [] := by
        cases rest with
        | nil => rfl
        | cons => simp [VRs] at hr2
      subst hrest
      have hfv := hr2.1
      simp only [VR] at hfv
      obtain ⟨fs', cs', rfl, hfs, hcs⟩ := hfv
      obtain ⟨u1, rfl, hr3⟩ := VRs.unifc has hr1
      obtain ⟨c1, n1, f1⟩ := viewArgs_ok (Q := fun _ => True) hI.sim ss _ _ hr3 x bs c hv hH1 (fun _ _ => trivial) hc.1
      obtain ⟨c2, d2, n2, m2, f2⟩ := viewBoxes_ok hI.sim cs caps _ hcs xs bs' c' hvb hH2 hc.2
      let ρg : Ren := ⟨fun b => (c1 ++ (c2 ++ d2))[b]?, ρ.base⟩
      obtain ⟨a1, a2⟩ := f1 ρg 0 rfl fun i d hi => by
        show (c1 ++ (c2 ++ d2))[0 + i]? = _
        rw [Nat.zero_add, List.getElem?_append_left (List.getElem?_eq_some_iff.1 hi).1]; exact hi
      obtain ⟨b1, b2, b3⟩ := f2 ρg (Sh.nes ss) (Sh.nes ss + Sh.nes cs) rfl (fun i d hi => by
        show (c1 ++ (c2 ++ d2))[Sh.nes ss + i]? = _
        rw [List.getElem?_append_right (by omega), n1, Nat.add_sub_cancel_left, List.getElem?_append_left (List.getElem?_eq_some_iff.1 hi).1]; exact hi) (fun i d hi => by
        show (c1 ++ (c2 ++ d2))[Sh.nes ss + Sh.nes cs + i]? = _
        rw [List.getElem?_append_right (by omega), n1, List.getElem?_append_right (by omega), n2, show Sh.nes ss + Sh.nes cs + i - Sh.nes ss - Sh.nes cs = i by omega]; exact hi)
      have e1 := entss_length ss x
      have e2 := entss_length cs xs
      have e3 := boxes_length cs xs (Sh.nes ss)
      have hsim : Sim ρg (heapC ss cs x xs) w := by
        refine sim_ro hI.sim.baseLe hI.sim.old (fun b blk hb => heapC_norw hb) (fun b blk hb => ?_) (fun b hb => ?_)
        · have hb := heap_mem hb
          unfold heapC at hb
          by_cases h1 : b < Sh.nes ss
          · rw [List.getElem?_append_left (by omega)] at hb
            obtain ⟨d, h3, h4, _⟩ := a2 b blk hb
            exact ⟨d, by show (c1 ++ (c2 ++ d2))[b]? = _; rw [List.getElem?_append_left (by omega)]; exact h3, h4⟩
          · rw [List.getElem?_append_right (by omega)] at hb
            by_cases h2 : b - Sh.nes ss < Sh.nes cs
            · rw [List.getElem?_append_left (by omega)] at hb
              obtain ⟨d, h3, h4⟩ := b2 _ blk hb
              refine ⟨d, ?_, h4⟩
              show (c1 ++ (c2 ++ d2))[b]? = _
              rw [List.getElem?_append_right (by omega), List.getElem?_append_left (by omega), n1, ← e1]; exact h3
            · rw [List.getElem?_append_right (by omega)] at hb
              obtain ⟨d, h3, h4⟩ := b3 _ blk hb
              refine ⟨d, ?_, h4⟩
              show (c1 ++ (c2 ++ d2))[b]? = _
              rw [List.getElem?_append_right (by omega), List.getElem?_append_right (by omega), n1, n2, ← e1, ← e2]; exact h3
        · show (c1 ++ (c2 ++ d2))[b]? = none
          refine List.getElem?_eq_none ?_
          rcases Nat.lt_or_ge b (heapC ss cs x xs).length with h9 | h9
          · exfalso
            obtain ⟨blk, k1, _⟩ := heapC_ro (ss := ss) (cs := cs) (x := x) (xs := xs) (heapC ss cs x xs)[b] (List.getElem_mem h9)
            simp only [Heap.get, List.getD_eq_getElem?_getD, List.getElem?_eq_getElem h9, Option.getD_some, k1] at hb
            cases hb
          · rw [heapC_length] at h9
            simp; omega
      have hargsg : VRs ρg (argsI t ss g' cs x) cargs.toList := by
        rw [hv12]
        refine (VRs.ifc a1).append ?_
        simp only [VRs, VR]
        exact ⟨⟨fs', cs', rfl, hfs.nil_any, b1⟩, trivial⟩
      refine (hr x xs y hy ρg w cargs hsim hargsg).mono fun e w' ⟨ρg', cv, he, hvv, hJ⟩ => ?_
      obtain ⟨ρ', g1, g2, g3⟩ := after_pure hI (hg := heapC ss cs x xs) (fun b blk hb => heapC_norw hb) (es := []) rfl (by rw [List.append_nil]; exact hJ) hn (fun z h1 h2 => by simp at h2; omega)
      exact ⟨ρ', cv, he, g1, outV_shift rs y 0 0 (fun k hk => by omega) hvv, g3⟩

end Go.Ab
/-
  CORE 28: ranges over functions: the iterator's code runs, and each of its calls of yield is a round in the caller's frame.
-/
set_option linter.unusedVariables false
set_option linter.unusedSimpArgs false
namespace Go.Ab

/-! ### values that name no yield -/
mutual
def noYA : AV → Bool
  | .fn f a b => (match f with
    | .yield _ => false
    | _ => true) && (noYL a && noYL b)
  | .agg l => noYL l
  | .tup l => noYL l
  | .ifc _ v => noYA v
  | .any => true
  | .val _ => true
  | .ptr .. => true
  | .elt .. => true
  | .slc .. => true
def noYL : List AV → Bool
  | [] => true
  | a :: l => noYA a && noYL l
end
def noYE : List Ent → Bool
  | [] => true
  | .live b :: l => (match b.cells with
    | .lit l => noYL l
    | _ => true) && noYE l
  | _ :: l => noYE l

mutual
theorem VR.noY {ρ ρ' : Ren} (hf : ∀ b, ρ' b = ρ b) : ∀ (v : AV) (cv : Value), noYA v = true → VR ρ v cv → VR ρ' v cv
  | .any, _, _, _ => by simp [VR]
  | .val v, cv, _, h => by simpa [VR] using h
  | .ptr b o, cv, _, h => by simpa only [VR, hf] using h
  | .elt b o i w f, cv, _, h => by simpa only [VR, hf] using h
  | .slc b o n (.exact c), cv, _, h => by simpa only [VR, hf] using h
  | .slc b o n .unk, cv, _, h => by simpa only [VR, hf] using h
  | .slc b o n .low, cv, _, h => by simpa only [VR, hf] using h
  | .slc b o n .part, cv, _, h => by simpa only [VR, hf] using h
  | .slc b o n .nn, cv, _, h => by simpa only [VR, hf] using h
  | .fn f a b, cv, hn, h => by
    simp only [noYA, Bool.and_eq_true] at hn
    simp only [VR] at h ⊢
    obtain ⟨x, y, h1, h2, h3⟩ := h
    refine ⟨x, y, ?_, VRs.noY hf a _ hn.2.1 h2, VRs.noY hf b _ hn.2.2 h3⟩
    cases f with
    | yield k => simp at hn
    | _ => exact h1
  | .agg l, cv, hn, h => by
    simp only [noYA] at hn
    simp only [VR] at h ⊢
    obtain ⟨x, h1, h2⟩ := h
    exact ⟨x, h1, VRs.noY hf l _ hn h2⟩
  | .tup l, cv, hn, h => by
    simp only [noYA] at hn
    simp only [VR] at h ⊢
    obtain ⟨x, h1, h2⟩ := h
    exact ⟨x, h1, VRs.noY hf l _ hn h2⟩
  | .ifc t v, cv, hn, h => by
    simp only [noYA] at hn
    simp only [VR] at h ⊢
    obtain ⟨x, h1, h2⟩ := h
    exact ⟨x, h1, VR.noY hf v _ hn h2⟩
theorem VRs.noY {ρ ρ' : Ren} (hf : ∀ b, ρ' b = ρ b) : ∀ (l : List AV) (cs : List Value), noYL l = true → VRs ρ l cs → VRs ρ' l cs
  | [], [], _, _ => by simp [VRs]
  | a :: l, v :: cs, hn, h => by
    simp only [noYL, Bool.and_eq_true] at hn
    simp only [VRs] at h ⊢
    exact ⟨VR.noY hf a v hn.1 h.1, VRs.noY hf l cs hn.2 h.2⟩
  | [], _ :: _, _, h => by simp [VRs] at h
  | _ :: _, [], _, h => by simp [VRs] at h
end
theorem noYL_get : ∀ (l : List AV) (i : Nat) (a : AV), noYL l = true → l[i]? = some a → noYA a = true
  | [], i, a, _, h => by simp at h
  | x :: l, 0, a, hn, h => by simp only [noYL, Bool.and_eq_true] at hn; simp at h; subst h; exact hn.1
  | x :: l, i + 1, a, hn, h => by simp only [noYL, Bool.and_eq_true] at hn; exact noYL_get l i a hn.2 (by simpa using h)
theorem noYE_get : ∀ (l : List Ent) (i : Nat) (b : Blk), noYE l = true → l[i]? = some (.live b) → ∀ cs, b.cells = .lit cs → noYL cs = true
  | [], i, b, _, h => by simp at h
  | e :: l, 0, b, hn, h => by
    simp at h; subst h
    intro cs hcs
    simp only [noYE, hcs, Bool.and_eq_true] at hn; exact hn.1
  | e :: l, i + 1, b, hn, h => by
    have hn : noYE l = true := by
      cases e with
      | live b' => simp only [noYE, Bool.and_eq_true] at hn; exact hn.2
      | free => simpa [noYE] using hn
      | dead => simpa [noYE] using hn
    exact noYE_get l i b hn (by simpa using h)
theorem RowIn.heap {W W' : World} (hW : W'.heap = W.heap) {cv : Value} {r : List Value} (h : RowIn W cv r) : RowIn W' cv r := by
  have hc : ∀ a, W'.cell? a = W.cell? a := fun a => by simp [World.cell?, hW]
  rcases h with h | ⟨b, o, c, h1, h2, h3⟩
  · exact .inl h
  · exact .inr ⟨b, o, c, h1, h2, fun j v hj => by rw [hc]; exact h3 j v hj⟩
theorem Sim.noY {ρ ρ' : Ren} {h : Heap} {w : World} (hS : Sim ρ h w) (hf : ∀ b, ρ' b = ρ b) (hb : ρ'.base.heap = ρ.base.heap) (hn : noYE h = true) : Sim ρ' h w := by
  refine ⟨fun b blk hl => by rw [hf]; exact hS.some_ b blk hl, fun b blk c hl hc => ?_, fun b blk c hl hc => hS.inside b blk c hl (by rw [← hf]; exact hc), fun b blk c hl hc => hS.own b blk c hl (by rw [← hf]; exact hc),
    fun b b' blk blk' c c' hl hl' hne hc hc' => hS.apart b b' blk blk' c c' hl hl' hne (by rw [← hf]; exact hc) (by rw [← hf]; exact hc'), fun b hl => by rw [hf]; exact hS.dom b hl, by rw [hb]; exact hS.baseLe, fun i hi => by rw [hb]; exact hS.old i (by rw [← hb]; exact hi), fun b blk c hl hc hr hs => by rw [hb]; exact hS.above b blk c hl (by rw [← hf]; exact hc) hr hs⟩
  have := hS.cells b blk c hl (by rw [← hf]; exact hc)
  cases hk : blk.cells with
  | lit l =>
    rw [hk] at this
    intro i v hi
    obtain ⟨cv, h1, h2⟩ := this i v hi
    exact ⟨cv, h1, VR.noY hf v cv (noYL_get l i v (noYE_get h b blk hn (heap_mem hl) l hk) hi) h2⟩
  | sym l => rw [hk] at this; exact this
  | arr s l => rw [hk] at this; exact this
  | rows l =>
    rw [hk] at this
    intro i r hi
    obtain ⟨cv, h1, h2⟩ := this i r hi
    exact ⟨cv, h1, h2.heap hb⟩
  | arrs s l =>
    rw [hk] at this
    intro i r hi
    obtain ⟨cv, h1, h2⟩ := this i r hi
    exact ⟨cv, h1, h2.heap hb⟩

/-! ### what is known of the context -/
theorem okA_mono_aux {m n : Nat} (h : m ≤ n) : (∀ a : AV, okA m a = true → okA n a = true) := by
  intro a
  refine AV.rec (motive_1 := fun a => okA m a = true → okA n a = true) (motive_2 := fun l => okL m l = true → okL n l = true) ?_ ?_ ?_ ?_ ?_ ?_ ?_ ?_ ?_ ?_ ?_ a <;> intros <;> simp_all [okA, okL] <;> omega
theorem okL_mono {m n : Nat} (h : m ≤ n) : ∀ (l : List AV), okL m l = true → okL n l = true
  | [], _ => by simp [okL]
  | a :: l, hl => by
    simp only [okL, Bool.and_eq_true] at hl ⊢
    exact ⟨okA_mono_aux h a hl.1, okL_mono h l hl.2⟩
theorem VRs.agree {ρ0 ρ : Ren} {n : Nat} (ha : ∀ b, b < n → ρ b = ρ0 b) (hb : ρ.base = ρ0.base) {l : List AV} {cs : List Value} (hk : okL n l = true) (h : VRs ρ0 l cs) : VRs ρ l cs := by
  refine VRs.mono (ρ := ρ0.below n) ⟨fun b c hc => ?_, hb⟩ _ _ (VRs.below _ _ hk h)
  unfold Ren.below at hc
  simp only at hc
  split at hc
  · rename_i hlt; rw [ha b hlt]; exact hc
  · cases hc

/-- A range over a function under way: the caller's slots, the loop's variables, its code. -/
structure Yi where
  t : List AV
  ps : Array Tmp
  asg : Code
  body : Code
def Yi.rec_ (yi : Yi) (fn : FuncId) (tmps : Array Value) (D : Nat) (s : LoopState) : Loop := { state := s, pending := none, fn, tmps, params := yi.ps, assign := yi.asg, body := yi.body, defers := D }
def Yi.ok (yi : Yi) (Γ : Ctx) : Prop :=
  okL Γ.n0 yi.t = true ∧ ∃ fn tmps D, Γ.w0.heap[Γ.ρ0.base.drawn]? = some (.loop (yi.rec_ fn tmps D .ready)) ∧ VRs Γ.ρ0 yi.t tmps.toList ∧ ¬ Γ.owned Γ.ρ0.base.drawn ∧ Γ.ρ0.base.heap.size ≤ Γ.ρ0.base.drawn
theorem Yi.at_ {yi : Yi} {Γ : Ctx} {ρ : Ren} {h : Heap} {w : World} (hY : yi.ok Γ) (hI : Inv Γ ρ h w) : ∃ fn tmps D, w.heap[ρ.base.drawn]? = some (.loop (yi.rec_ fn tmps D .ready)) ∧ VRs ρ yi.t tmps.toList ∧ ρ.base.heap.size ≤ ρ.base.drawn := by
  obtain ⟨h1, fn, tmps, D, h2, h3, h4, h5⟩ := hY
  refine ⟨fn, tmps, D, ?_, VRs.agree hI.agree hI.sameBase h1 h3, by rw [hI.sameBase]; exact h5⟩
  rw [hI.sameBase, hI.keep _ (Array.getElem?_eq_some_iff.1 h2).1 h4]; exact h2
theorem Yi.stable (yi : Yi) : Stable yi.ok := fun Γ ρ h w hY hI hn => by
  obtain ⟨fn, tmps, D, h1, h2, h3⟩ := Yi.at_ (yi := yi) hY hI
  exact ⟨okL_mono hn _ hY.1, fn, tmps, D, h1, h2, hI.sim.not_owned h1 (by simp), h3⟩

/-! ### one round -/
theorem Inv.self {ρ : Ren} {h : Heap} {w : World} (hS : Sim ρ h w) : Inv ⟨h.length, ρ, h, w⟩ ρ h w := by
  refine ⟨hS, fun _ _ => rfl, rfl, rfl, rfl, rfl, Nat.le_refl _, fun _ _ _ => rfl, fun b blk d hb hd hrw hs => ?_⟩
  refine .inr ⟨b, blk, d, ?_, hb, hrw, hd, hs, rfl⟩
  rcases Nat.lt_or_ge b h.length with h' | h'
  · exact h'
  · simp [Heap.get, List.getD_eq_getElem?_getD, List.getElem?_eq_none h'] at hb
theorem Sim.putObj {ρ : Ren} {h : Heap} {w : World} (hS : Sim ρ h w) {D : Nat} {o o' : Obj} (hD : w.heap[D]? = some o) (ho : ∀ cs e q, o ≠ .cells cs e q) (ho' : ∀ cs e q, o' ≠ .cells cs e q) (hb : ρ.base.heap.size ≤ D) : Sim ρ h (w.putObj D o') := by
  have hc := cell_putObj hD ho ho'
  refine ⟨hS.some_, fun b blk c hb hρ => (hS.cells b blk c hb hρ).of_cell fun _ o => hc _, fun b blk c hb hρ hso => by simpa using hS.inside b blk c hb hρ hso, fun b blk c hb hρ hrw hso => ?_, hS.apart, hS.dom, by simpa using hS.baseLe, fun i hi => by rw [World.putObj_heap_other (by omega)]; exact hS.old i hi, hS.above⟩
  obtain ⟨h1, cs, e, h2, h3⟩ := hS.own b blk c hb hρ hrw hso
  refine ⟨h1, cs, e, ?_, h3⟩
  rw [World.putObj_heap_other (fun e' => ?_)]
  · exact h2
  · subst e'; rw [hD] at h2; injection h2 with h2; exact absurd h2 (ho _ _ _)
/-- The record is turned ahead of the round and turned back behind it. -/
theorem Inv.round {Γ : Ctx} {ρ ρ3 : Ren} {h h3 : Heap} {w w3 : World} (hI : Inv Γ ρ h w) (hn : Γ.n0 ≤ h.length) {l : Nat} {o o' : Obj} (hl : w.heap[l]? = some o) (ho : ∀ cs e q, o ≠ .cells cs e q) (ho' : ∀ cs e q, o' ≠ .cells cs e q) (hb : ρ.base.heap.size ≤ l)
    (hJ : Inv ⟨h.length, ρ, h, w.putObj l o'⟩ ρ3 h3 w3) : Inv Γ ρ3 h3 (w3.putObj l o) := by
  have hlt : l < w.heap.size := (Array.getElem?_eq_some_iff.1 hl).1
  have hl2 : (w.putObj l o').heap[l]? = some o' := World.putObj_heap_same hlt
  have hS2 : Sim ρ h (w.putObj l o') := hI.sim.putObj hl ho ho' hb
  have hl3 : w3.heap[l]? = some o' := by
    rw [hJ.keep l (by simpa using hlt) (hS2.not_owned hl2 ho')]; exact hl2
  have hlt3 : l < w3.heap.size := (Array.getElem?_eq_some_iff.1 hl3).1
  refine hI.trans hn ⟨hJ.sim.putObj hl3 ho' ho (by rw [hJ.sameBase]; exact hb), hJ.agree, hJ.sameBase, hJ.os, hJ.tape, hJ.output, by have := hJ.size; simpa using this, fun i hi hno => ?_, fun b blk c hb hc hr hs => ?_⟩
  · by_cases e : i = l
    · subst e; rw [World.putObj_heap_same hlt3, hl]
    · rw [World.putObj_heap_other e, hJ.keep i (by simpa using hi) hno]
      exact World.putObj_heap_other e
  · have := hJ.fresh b blk c hb hc hr hs
    rcases this with h1 | h1
    · exact .inl (by simpa using h1)
    · exact .inr h1

def setPs : List Nat → List AV → List AV → List AV
  | p :: ps, a :: as, t => setPs ps as (t.set p a)
  | _, _, t => t
theorem setPs_VRs {ρ : Ren} : ∀ (ps : List Nat) (as : List AV) (vs : List Value) (t : List AV) (tv : Array Value), VRs ρ as vs → VRs ρ t tv.toList → VRs ρ (setPs ps as t) ((ps.zip vs).foldl (fun (t : Array Value) (p : Nat × Value) => t.setIfInBounds p.1 p.2) tv).toList
  | [], as, vs, t, tv, _, ht => by simpa [setPs] using ht
  | p :: ps, [], [], t, tv, _, ht => by simpa [setPs] using ht
  | p :: ps, a :: as, v :: vs, t, tv, h, ht => by
    simp only [VRs] at h
    simp only [setPs, List.zip_cons_cons, List.foldl_cons]
    refine setPs_VRs ps as vs _ _ h.2 ?_
    simp only [Array.toList_setIfInBounds]
    exact ht.set p h.1
  | p :: ps, [], _ :: _, _, _, h, _ => by simp [VRs] at h
  | p :: ps, _ :: _, [], _, _, h, _ => by simp [VRs] at h

/-- One call of yield: the assignments to the loop's variables, and the body, in the caller's frame. -/
def roundS {P : Program} (env : Env P) (fuel : Nat) (Lb : Loops P env.Y) (yi : Yi) {β : Type} (H : Nat → Ent) (new : Nat) (args : List AV) (K : Eff → Option β) : Option β :=
  let R := reachF H 1000 0 (blksL (yi.t ++ args) [])
  let hp := partHeap allRw H new R
  match okL new (yi.t ++ args) && (okEnts new hp && decide (args.length = yi.ps.size)) with
  | true => codeK P env new fuel [] [] (.code yi.asg) (setPs yi.ps.toList args yi.t) hp fun e t h => match e with
    | .normal => codeK P env h.length fuel Lb [] (.code yi.body) t h fun e t' h' => match e with
      | .normal => K (outE hp h' R (reachF h'.get 1000 0 R) (.val (.bool true)))
      | _ => none
    | _ => none
  | false => none

theorem okL_append {n : Nat} : ∀ (a b : List AV), okL n (a ++ b) = (okL n a && okL n b)
  | [], b => by simp [okL]
  | x :: a, b => by simp [okL, okL_append a b, Bool.and_assoc]

def roundY {P : Program} (hm : P.follows .mixedOrders = true) (env : Env P) (hy : ∀ Γ, env.Y Γ) (fuel : Nat) (Lb : Loops P env.Y) (yi : Yi) (hL : Lb.fit yi.body) : YSumm P where
  Y := yi.ok
  stable := yi.stable
  S := fun H new args K => roundS env fuel Lb yi H new args K
  ok := by
    intro β H new args K r hs
    unfold roundS at hs
    simp only at hs
    split at hs
    case h_2 => cases hs
    rename_i hok
    simp only [Bool.and_eq_true, decide_eq_true_eq, okL_append] at hok
    obtain ⟨⟨hokt, hoka⟩, hents, hsz⟩ := hok
    generalize hR : reachF H 1000 0 (blksL (yi.t ++ args) []) = R at *
    have hlen : (partHeap allRw H new R).length = new := by simp [partHeap]
    obtain ⟨e, t1, h1, hk, hn1, hg1⟩ := codeK_ok hm fuel [] [] (.code yi.asg) _ _ _ yi.asg Loops.fit_nil (.inl rfl) (by rw [hlen]; exact Nat.le_refl _) hs
    have hg1 : Runs P env.Y new yi.asg (setPs yi.ps.toList args yi.t) (partHeap allRw H new R) e t1 h1 := hg1
    split at hk
    case h_2 => cases hk
    obtain ⟨e2, t2, h2, hk2, hn2, hg2⟩ := codeK_ok hm fuel Lb [] (.code yi.body) _ _ _ yi.body hL (.inr rfl) (Nat.le_refl _) hk
    have hg2 : Runs P env.Y h1.length yi.body t1 h1 e2 t2 h2 := hg2
    split at hk2
    case h_2 => cases hk2
    refine ⟨_, hk2, fun Γ hY ρ h w cargs hI hV hH hn hfree => ?_⟩
    have hH : ∀ b ∈ R, h.get b = H b := hH
    have hfree : ∀ x, new ≤ x → x < new + (h2.length - (partHeap allRw H new R).length) → h.get x = .free := hfree
    rw [hlen] at hfree
    obtain ⟨fn, tmps, D, hl, ht, hb⟩ := Yi.at_ (yi := yi) hY hI
    obtain ⟨hsim, hout⟩ := out_of_inv (wr := allRw) (H := H) (new := new) (R := R) (Z := reachF h2.get 1000 0 R) (v := .val (.bool true)) (h' := h2) hents (by omega) hI hH hn hfree
    have hlt : ρ.base.drawn < w.heap.size := (Array.getElem?_eq_some_iff.1 hl).1
    have hs : cargs.size = yi.ps.size := by have := hV.length; simp at this; omega
    refine ⟨fn, _, yi.asg, yi.body, run_yield hl (by simpa [Yi.rec_] using hs), ?_⟩
    refine roundIn_of_wpIn trivial ?_
    let Γa : Ctx := ⟨new, ρ.below new, partHeap allRw H new R, w⟩
    have hIa : Inv Γa (ρ.below new) (partHeap allRw H new R) w := by
      have hI0 : Inv ⟨(partHeap allRw H new R).length, ρ.below new, partHeap allRw H new R, w⟩ (ρ.below new) (partHeap allRw H new R) w := by
        refine ⟨hsim, fun _ _ => rfl, rfl, rfl, rfl, rfl, Nat.le_refl _, fun _ _ _ => rfl, fun b blk d hb hd hrw hs => ?_⟩
        refine .inr ⟨b, blk, d, ?_, hb, hrw, hd, hs, rfl⟩
        rcases Nat.lt_or_ge b (partHeap allRw H new R).length with h' | h'
        · exact h'
        · simp [Heap.get, List.getD_eq_getElem?_getD, List.getElem?_eq_none h'] at hb
      rw [hlen] at hI0; exact hI0
    have hVa : VRs (ρ.below new) (setPs yi.ps.toList args yi.t) ((yi.ps.zip cargs).foldl (fun (t : Array Value) (p : Nat × Value) => t.setIfInBounds p.1 p.2) tmps).toList := by
      rw [← Array.foldl_toList, Array.toList_zip]
      exact setPs_VRs _ _ _ _ _ (VRs.below _ _ hoka hV) (VRs.below _ _ hokt ht)
    have hfr : ∀ (W : World), W.heap[ρ.base.drawn]? = some (.loop (yi.rec_ fn tmps D .ready)) → FrOK (some ρ.base.drawn) W := fun W hW l hl => by
      injection hl with hl; subst hl; exact ⟨_, hW⟩
    refine wpIn_mono (hg1.2 Γa rfl (hy _) (some ρ.base.drawn) (ρ.below new) w _ hIa hVa ⟨hfr w hl, fun _ _ => rfl, trivial⟩) fun ea aa wa hp => ?_
    obtain ⟨rfl, ρ1, g1, g2, g3⟩ := hp
    have hla : wa.heap[ρ.base.drawn]? = some (.loop (yi.rec_ fn tmps D .ready)) := Inv.quiet hsim g1 _ _ hl (by simp)
    have hlta : ρ.base.drawn < wa.heap.size := (Array.getElem?_eq_some_iff.1 hla).1
    have hb1 : ρ1.base.heap.size ≤ ρ.base.drawn := by rw [g1.sameBase]; exact hb
    refine ⟨_, run_beginRound hla rfl, ?_⟩
    have hbusy : (wa.putObj ρ.base.drawn (.loop { yi.rec_ fn tmps D .ready with state := .busy })).heap[ρ.base.drawn]? = some (.loop (yi.rec_ fn tmps D .busy)) := World.putObj_heap_same hlta
    have hIb : Inv ⟨h1.length, ρ1, h1, wa.putObj ρ.base.drawn (.loop { yi.rec_ fn tmps D .ready with state := .busy })⟩ ρ1 h1 (wa.putObj ρ.base.drawn (.loop { yi.rec_ fn tmps D .ready with state := .busy })) := by
      refine ⟨g1.sim.putObj hla (by simp) (by simp) hb1, fun _ _ => rfl, rfl, rfl, rfl, rfl, Nat.le_refl _, fun _ _ _ => rfl, fun b blk d hb hd hrw hs => ?_⟩
      refine .inr ⟨b, blk, d, ?_, hb, hrw, hd, hs, rfl⟩
      rcases Nat.lt_or_ge b h1.length with h' | h'
      · exact h'
      · simp [Heap.get, List.getD_eq_getElem?_getD, List.getElem?_eq_none h'] at hb
    have hda : aa.defers = [] := g3.2.1 _ rfl
    refine wpIn_mono (hg2.2 ⟨h1.length, ρ1, h1, wa.putObj ρ.base.drawn (.loop { yi.rec_ fn tmps D .ready with state := .busy })⟩ rfl (hy _) (some ρ.base.drawn) ρ1 _ aa hIb g2 ⟨fun l hl => by (injection hl with hl; subst hl; exact ⟨_, hbusy⟩), fun _ _ => hda, by rw [hda]; trivial⟩) fun eb ab wb hp => ?_
    obtain ⟨rfl, ρ3, q1, q2, q3⟩ := hp
    have hlb : wb.heap[ρ.base.drawn]? = some (.loop (yi.rec_ fn tmps D .busy)) := Inv.quiet hIb.sim q1 _ _ hbusy (by simp)
    refine ⟨_, _, run_endRound none hlb, ?_⟩
    have hfin := g1.round hn1 hla (by simp) (by simp) hb1 q1
    obtain ⟨ρ4, k1, k2, k3⟩ := hout ρ3 _ hfin
    exact ⟨ρ4, .bool true, rfl, k1, by simp [outE, VR], k3⟩

/-! ### the statement -/
theorem Inv.allocObj {Γ : Ctx} {ρ : Ren} {h : Heap} {w : World} (hI : Inv Γ ρ h w) {o : Obj} (ho : ∀ cs e q, o ≠ .cells cs e q) : Inv Γ ρ h (w.alloc o) := by
  have hsz : (w.alloc o).heap.size = w.heap.size + 1 := by simp
  have hold : ∀ i, i < w.heap.size → (w.alloc o).heap[i]? = w.heap[i]? := fun i hi => by
    show (w.heap.push o)[i]? = _
    rw [Array.getElem?_push, if_neg (by omega)]
  refine hI.other (by omega) (fun a => ?_) (fun i cs e q hi => ?_) (fun i hi => hold i ?_) rfl rfl rfl
  · unfold World.cell?
    by_cases ha : a.block < w.heap.size
    · rw [hold _ ha]
    · by_cases h2 : a.block = w.heap.size
      · rw [h2, World.alloc_heap_new, Array.getElem?_eq_none (Nat.le_refl _)]
        cases o with
        | cells cs e q => exact absurd rfl (ho cs e q)
        | _ => rfl
      · rw [Array.getElem?_eq_none (by omega), Array.getElem?_eq_none (by omega)]
  · rw [hold i (Array.getElem?_eq_some_iff.1 hi).1]; exact hi
  · rcases hi with hi | hi
    · have := hI.sim.baseLe; omega
    · have := hI.size; omega
theorem quiet_alloc (w : World) (o : Obj) : Quiet w (w.alloc o) := fun k o' hk _ => by
  have hlt := (Array.getElem?_eq_some_iff.1 hk).1
  show (w.heap.push o)[k]? = _
  rw [Array.getElem?_push, if_neg (by omega)]; exact hk
theorem quiet_putObj {w : World} {l : Nat} {o' : Obj} {k : Nat} {x : Obj} (hk : w.heap[k]? = some x) (hne : k ≠ l) : (w.putObj l o').heap[k]? = some x := by
  rw [World.putObj_heap_other hne]; exact hk

/-- Where the iterator's code runs. -/
def rangeEnv {P : Program} (hm : P.follows .mixedOrders = true) (env : Env P) (hy : ∀ Γ, env.Y Γ) (fuel : Nat) (Lb : Loops P env.Y) (yi : Yi) (hL : Lb.fit yi.body) (lI : List (Summ P)) : Env P := ⟨lI, some (roundY hm env hy fuel Lb yi hL)⟩

/-- A range over a function, by the iterator's own code. -/
def rangeSumm {P : Program} (hm : P.follows .mixedOrders = true) (env : Env P) (hy : ∀ Γ, env.Y Γ) (fuel : Nat) (Lb : Loops P env.Y) (g : Operand) (ps : Array Tmp) (asg body : Code) (hLb : Lb.fit body)
    (lI : List (Summ P)) (fuelI : Nat) (Lit : (yi : Yi) → Loops P yi.ok) (gf : FuncId) (fn : Func) (c : Code) (hf : P.funcs[gf]? = some fn) (hb : fn.body = some c) (hname : (fn.name == "runtime.NumGoroutine") = false) (hres : fn.results = #[]) (hLit : ∀ yi, (Lit yi).fit c) : LSumm P env.Y where
  c := .rangeFunc g ps asg body
  S := fun {β} n0 t h K => match evalE t g with
  | .fn (.func f) [] cs =>
    if f = gf then
      (match okL h.length t && (noYL t && (noYE h && noYL cs)) with
      | true =>
        codeK P (rangeEnv hm env hy fuel Lb ⟨t, ps, asg, body⟩ hLb lI) h.length fuelI (Lit ⟨t, ps, asg, body⟩) [] (.code c) (.fn (.yield 0) [] [] :: cs ++ List.replicate (fn.ntmps - (cs.length + 1)) (.val undef)) h fun e t' h' => match okExit e && noYE h' with
          | true => K .normal t h'
          | false => none
      | false => none)
    else none
  | _ => none
  ok := by
    intro β n0 t h K r hn hs
    split at hs
    case h_2 => cases hs
    rename_i f cs hg
    split at hs
    case isFalse => cases hs
    rename_i hff
    subst hff
    split at hs
    case h_2 => cases hs
    rename_i hok
    simp only [Bool.and_eq_true] at hok
    obtain ⟨hokt, hnt, hnh, hncs⟩ := hok
    obtain ⟨e, t1, h1, hk, hn1, hgood⟩ := codeK_ok hm (env := rangeEnv hm env hy fuel Lb ⟨t, ps, asg, body⟩ hLb lI) fuelI (Lit ⟨t, ps, asg, body⟩) [] (.code c) _ _ _ c (hLit _) (.inr rfl) (Nat.le_refl _) hs
    split at hk
    case h_2 => cases hk
    rename_i hex
    simp only [Bool.and_eq_true] at hex
    obtain ⟨hex, hnh1⟩ := hex
    refine ⟨_, t, h1, hk, by omega, fun Γ hΓ hY fr ρ w a hI hV hd => ?_⟩
    refine wpIn_rangeFunc fun fn0 _ => ?_
    have hgv := VR_evalE hV g
    rw [hg] at hgv
    simp only [VR] at hgv
    obtain ⟨fs, cs', hgv, hfs, hcs⟩ := hgv
    have hfs0 : fs = #[] := by
      have := hfs.length
      exact Array.eq_empty_of_size_eq_zero (by simpa using this.symm)
    subst hfs0
    -- the record is laid
    obtain ⟨l, mark, w1, hent, hI1, hquiet, hrec, hmark, hbl⟩ : ∃ l mark w1, (Instr.enterLoop fn0 a.tmps ps asg body (frF fr).round).run P w = .ok (l, mark) w1 ∧ Inv Γ ρ h w1 ∧ Quiet w w1 ∧
        (∃ D, w1.heap[l]? = some (.loop ((Yi.mk t ps asg body).rec_ fn0 a.tmps D .ready))) ∧ (∀ w2, Quiet w1 w2 → ∀ w3, (∀ k x, k ≠ l → w2.heap[k]? = some x → w3.heap[k]? = some x) → Marks Γ fr (mark ++ a.defers) w3) ∧ (ρ.base.heap.size ≤ l ∧ Γ.w0.heap.size ≤ l) := by
      have hbase := hI.sim.baseLe
      have hsize := hI.size
      cases fr with
      | none =>
        have e1 : ((w.alloc (.deferred (some []))).heap.size) = w.heap.size + 1 := by simp
        refine ⟨w.heap.size + 1, [{ target := .collected w.heap.size, args := #[] }], _, run_enterLoop_outer _ _ _ _ _, ?_, ?_, ⟨w.heap.size, ?_⟩, ?_, by omega⟩
        · exact (hI.allocObj (by simp)).allocObj (by simp)
        · exact fun k o hk ho => quiet_alloc _ _ k o (quiet_alloc _ _ k o hk ho) ho
        · have := World.alloc_heap_new (w.alloc (.deferred (some []))) (.loop ((Yi.mk t ps asg body).rec_ fn0 a.tmps w.heap.size .ready))
          rw [e1] at this; exact this
        · intro w2 hq w3 hk3
          refine ⟨(fun l hl => by cases hl), (fun l hl => by cases hl), ?_⟩
          have hmk : ∀ (ds : List Deferred), MarksL Γ ds w → MarksL Γ ds w3 ∧ ∀ d' ∈ ds, d' ≠ ({ target := .collected w.heap.size, args := #[] } : Deferred) := by
            intro ds
            induction ds with
            | nil => exact fun _ => ⟨trivial, fun _ h => by cases h⟩
            | cons d ds ih =>
              intro hm
              obtain ⟨⟨D', e1', e2, e3, e4⟩, e5⟩ := hm
              have hD : D' < w.heap.size := (Array.getElem?_eq_some_iff.1 e3).1
              obtain ⟨i1, i2⟩ := ih e5
              refine ⟨⟨⟨D', e1', e2, hk3 D' _ (by omega) (hq _ _ (quiet_alloc _ _ _ _ (quiet_alloc _ _ _ _ e3 (by simp)) (by simp)) (by simp)), e4⟩, i1⟩, fun d' hd' => ?_⟩
              rcases List.mem_cons.1 hd' with rfl | hd'
              · rw [e1']; intro hh; injection hh with hh; injection hh with hh; omega
              · exact i2 d' hd'
          obtain ⟨m1, m2⟩ := hmk a.defers hd.2.2
          refine ⟨⟨w.heap.size, rfl, ⟨hsize, by have := hI.sameBase; rw [← this]; exact hbase⟩, hk3 _ _ (by omega) (hq _ _ ?_ (by simp)), m2⟩, m1⟩
          exact quiet_alloc _ _ _ _ (World.alloc_heap_new _ _) (by simp)
      | some l0 =>
        obtain ⟨r0, hr0⟩ := hd.1 l0 rfl
        refine ⟨w.heap.size, [], _, run_enterLoop_inner hr0 _ _ _ _ _, hI.allocObj (by simp), quiet_alloc _ _, ⟨r0.defers, World.alloc_heap_new _ _⟩, ?_, by omega⟩
        intro w2 hq w3 hk3
        have hlt0 : l0 < w.heap.size := (Array.getElem?_eq_some_iff.1 hr0).1
        refine ⟨fun l hl => ?_, fun l hl => ?_, ?_⟩
        · injection hl with hl; subst hl
          exact ⟨r0, hk3 _ _ (by omega) (hq _ _ (quiet_alloc _ _ _ _ hr0 (by simp)) (by simp))⟩
        · exact hd.2.1 _ hl
        · have h0 := hd.2.1 _ rfl
          show MarksL Γ a.defers w3
          rw [h0]; trivial
    obtain ⟨D, hrec⟩ := hrec
    let ρ' : Ren := ⟨ρ.f, { ρ.base with drawn := l }⟩
    have hcall : ∀ as w', (callFunc f as).run P w' = .ok (.enter f as) w' := fun as w' => by
      simp only [callFunc, program, Sem.run_bind, Sem.run, Result.andThen, hf]
      simp only [hname, hb, Option.isNone_some, Bool.false_eq_true, if_false]
      rfl
    refine ⟨l, mark, w1, { target := .fn (.func f) cs', args := #[.func (.yield l) #[] #[]] }, w1, f, #[.func (.yield l) #[] #[]] ++ cs', w1, hent, ?_, fun _ _ => trivial, ?_, (fun h => by cases h), ?_⟩
    · simp only [resolve, hgv]
      simp [fnAt, Deferred.ofValue, Sem.run, pure, Act.eval]
    · simp [invoke, hcall]
    · have hS' : Sim ρ' h w1 := hI1.sim.noY (fun _ => rfl) rfl hnh
      have hYi : (Yi.mk t ps asg body).ok ⟨h.length, ρ', h, w1⟩ := ⟨hokt, fn0, a.tmps, D, hrec, VRs.noY (ρ := ρ) (ρ' := ρ') (fun _ => rfl) _ _ hnt hV, hS'.not_owned hrec (by simp), hbl.1⟩
      have hVi : VRs ρ' (.fn (.yield 0) [] [] :: cs ++ List.replicate (fn.ntmps - (cs.length + 1)) (.val undef)) ((#[Value.func (.yield l) #[] #[]] ++ cs') ++ Array.replicate (fn.ntmps - (#[Value.func (.yield l) #[] #[]] ++ cs').size) undef).toList := by
        have hlen := hcs.length
        have hsz : (#[Value.func (.yield l) #[] #[]] ++ cs').size = cs.length + 1 := by simp at hlen ⊢; omega
        rw [hsz]
        simp only [Array.toList_append, Array.toList_replicate]
        refine VRs.append ?_ (VRs.replicate (ρ := ρ') (a := .val undef) (v := undef) (by simp [VR]) _)
        simp only [List.singleton_append, VRs]
        exact ⟨by simp only [VR]; exact ⟨#[], #[], rfl, by simp [VRs], by simp [VRs]⟩, VRs.noY (ρ := ρ) (ρ' := ρ') (fun _ => rfl) _ _ hncs hcs⟩
      refine callsIn_frF (calls_of_runs hf hb hgood hex (Γ := ⟨h.length, ρ', h, w1⟩) rfl hYi (Inv.self hS') hVi fun ρ2 w2 a2 g2 g3 => ?_)
      refine ⟨.tuple #[], by simp [results, hres, Sem.run, pure], ?_⟩
      have hq2 : Quiet w1 w2 := Inv.quiet hS' g2
      have hl2 := hq2 _ _ hrec (by simp)
      refine ⟨none, _, run_endLoop hl2 (by simp [Yi.rec_]), ?_⟩
      have hbase2 : ρ2.base.heap = ρ.base.heap := by rw [g2.sameBase]
      have hJ : Inv ⟨h.length, ρ, h, w1⟩ ⟨ρ2.f, ρ.base⟩ h1 w2 :=
        ⟨g2.sim.noY (fun _ => rfl) hbase2.symm hnh1, g2.agree, rfl, g2.os, g2.tape, g2.output, g2.size, g2.keep, g2.fresh⟩
      have hfin : Inv Γ ⟨ρ2.f, ρ.base⟩ h1 w2 := hI1.trans (by omega) hJ
      refine ⟨rfl, ⟨ρ2.f, ρ.base⟩, hfin.putObj hl2 (by simp) (by simp) hbl.2 hbl.1, VRs.agree (ρ0 := ρ) (ρ := ⟨ρ2.f, ρ.base⟩) (n := h.length) (fun b hb => g2.agree b hb) rfl hokt hV, hmark w2 hq2 _ fun k x hne hk => quiet_putObj hk hne⟩

def rgG : Code → Operand
  | .rangeFunc g _ _ _ => g
  | _ => .const undef
def rgP : Code → Array Tmp
  | .rangeFunc _ ps _ _ => ps
  | _ => #[]
def rgA : Code → Code
  | .rangeFunc _ _ a _ => a
  | _ => .skip
def rgB : Code → Code
  | .rangeFunc _ _ _ b => b
  | _ => .skip

end Go.Ab
/-
  CORE 29: functions that only read, and hand out a function value that has captured one number (a box of its own).
-/
set_option linter.unusedVariables false
set_option linter.unusedSimpArgs false
namespace Go.Ab

def kEnt (k : IntKind) (n : Int) : Ent := .live { cells := .lit [.val (.int k n)], rw := true }
/-- Whatever the arguments: where the law tells a number, function g comes out, with a box of its own that holds it. -/
def ReadsK (P : Program) (f : FuncId) (ss : List Sh) (g : FuncId) (k : IntKind) (law : Sh.Ts ss → Option Int) : Prop :=
  ∀ x n, law x = some n → Does P f (Sh.args ss x 0) (Sh.entss ss x) (.fn (.func g) [] [.ptr (Sh.nes ss) 0]) (Sh.entss ss x ++ [kEnt k n])
def outBx {P : Program} (fn : Func) (n0 : Nat) (g : FuncId) (k : IntKind) (ex : Exit) (t : List AV) (h : Heap) : Option Int :=
  match okExit ex with
  | true => (match resA P t h fn.results.toList with
    | some [.fn (.func g') [] [.ptr b 0]] => if g' = g ∧ n0 ≤ b then (match h.get b with
      | .live { cells := .lit [.val (.int k' n)], rw := true, grow := none } => if k' = k then some n else none
      | _ => none) else none
    | _ => none)
  | false => none
def codeLawK (P : Program) (env : Env P) (fuel : Nat) (L : Loops P env.Y) (fn : Func) (c : Code) (ss : List Sh) (g : FuncId) (k : IntKind) (x : Sh.Ts ss) : Option Int :=
  codeK P env (Sh.nes ss) fuel L [] (.code c) (Sh.args ss x 0 ++ List.replicate (fn.ntmps - ss.length) (.val undef)) (Sh.entss ss x) fun ex t h => outBx (P := P) fn (Sh.nes ss) g k ex t h

theorem ReadsK.of_code {P : Program} (hm : P.follows .mixedOrders = true) {f : FuncId} {fn : Func} {c : Code} (hf : P.funcs[f]? = some fn) (hb : fn.body = some c) (hname : (fn.name == "runtime.NumGoroutine") = false)
    (env : Env P) (fuel : Nat) {L : Loops P env.Y} (hL : L.fit c) {ss : List Sh} {g : FuncId} {k : IntKind} (hy : ∀ Γ, env.Y Γ := by exact fun _ => True.intro) : ReadsK P f ss g k (codeLawK P env fuel L fn c ss g k) := by
  intro x n hxy ρ w cargs hsim hargs
  unfold codeLawK at hxy
  have hlen0 := entss_length ss x
  obtain ⟨ex, t1, h1, hk, hn1, hg⟩ := codeK_ok hm fuel L [] (.code c) _ _ _ c hL (.inr rfl) (by omega) hxy
  unfold outBx at hk
  split at hk
  case h_2 => cases hk
  rename_i hex
  have hcall : (callFunc f cargs).run P w = .ok (.enter f cargs) w := by
    simp only [callFunc, program, Sem.run_bind, Sem.run, Result.andThen, hf]
    simp only [hname, hb, Option.isNone_some, Bool.false_eq_true, if_false]
    rfl
  have hlen := hargs.length
  rw [args_length] at hlen
  have hro : ∀ b blk, Heap.get (Sh.entss ss x) b = .live blk → blk.rw = false := fun b blk hb => entss_norw hb
  have hI : Inv ⟨(Sh.entss ss x).length, ρ, Sh.entss ss x, w⟩ ρ (Sh.entss ss x) w :=
    ⟨hsim, fun _ _ => rfl, rfl, rfl, rfl, rfl, Nat.le_refl _, fun _ _ _ => rfl, fun b blk d hb hd hrw hs => by rw [hro b blk hb] at hrw; cases hrw⟩
  have hV : VRs ρ (Sh.args ss x 0 ++ List.replicate (fn.ntmps - ss.length) (.val undef)) ({ tmps := cargs ++ Array.replicate (fn.ntmps - cargs.size) undef, defers := [] } : Act).tmps.toList := by
    simp only [Array.toList_append, Array.toList_replicate]
    refine hargs.append ?_
    rw [hlen]
    simpa using VRs.replicate (ρ := ρ) (a := .val undef) (v := undef) (by simp [VR]) (fn.ntmps - cargs.size)
  split at hk
  case h_2 => cases hk
  rename_i g' b hvs
  split at hk
  case isFalse => cases hk
  rename_i hgb
  obtain ⟨rfl, hbn⟩ := hgb
  split at hk
  case h_2 => cases hk
  rename_i k' n' hget
  split at hk
  case isFalse => cases hk
  rename_i hkk
  subst hkk
  injection hk with hk
  subst hk
  unfold Invokes
  rw [hcall]
  simp only
  refine calls_of_runs hf hb hg hex hlen0 (hy _) hI hV fun ρ2 w2 a2 g2 g3 => ?_
  obtain ⟨us, cv, k1, k2, k3⟩ := run_results_list (P := P) g2 g3 hvs
  have hv : VR ρ2 (.fn (.func g') [] [.ptr b 0]) cv := k3 ρ2 _ k2
  obtain ⟨d, hd⟩ := g2.sim.some_ b _ hget
  have hS := settleF hsim hro g2 hget rfl (fun l hl => ⟨[.int k' n'], by injection hl with hl; exact hl.symm⟩) (fun _ _ => by simp) (fun _ => by simp) hd
  refine ⟨cv, k1, _, cv, rfl, ?_, hS⟩
  simp only [VR] at hv ⊢
  obtain ⟨fs, cs, h2, h3, h4⟩ := hv
  refine ⟨fs, cs, h2, h3.nil_any, ?_⟩
  have hl4 := h4.length
  match cs, hl4, h4 with
  | ⟨[u]⟩, _, h4 =>
    simp only [VRs, VR] at h4 ⊢
    obtain ⟨⟨cb, co, cc, e1, e2⟩, _⟩ := h4
    rw [hd] at e1
    exact ⟨⟨cb, co, cc, by rw [← hlen0]; simpa [Ren.put] using e1, e2⟩, trivial⟩
theorem ReadsK.to {P : Program} {f : FuncId} {ss : List Sh} {g : FuncId} {k : IntKind} {law law' : Sh.Ts ss → Option Int} (h : ReadsK P f ss g k law) (he : ∀ x, law x = law' x) : ReadsK P f ss g k law' := fun x y hxy => h x y (by rw [he]; exact hxy)

def readsKS {P : Program} {β : Type} (ss : List Sh) (g : FuncId) (k : IntKind) (law : Sh.Ts ss → Option Int) (H : Nat → Ent) (new : Nat) (args : List AV) (K : Eff → Option β) : Option β :=
  match viewArgs H ss args with
  | some (x, bs, c) => ifK c ((law x).bind fun n => K { rb := bs, wb := [(new, kEnt k n)], nw := 1, val := .fn (.func g) [] [.ptr new 0] })
  | none => none
def ReadsK.summ {P : Program} {f : FuncId} {ss : List Sh} {g : FuncId} {k : IntKind} {law : Sh.Ts ss → Option Int} (hr : ReadsK P f ss g k law) : Summ P where
  f := f
  S := fun H new args K => readsKS (P := P) ss g k law H new args K
  ok := by
    intro β H new args K r hs
    unfold readsKS at hs
    split at hs
    case h_2 => cases hs
    rename_i x bs c hv
    obtain ⟨hc, hs⟩ := ifK_some hs
    rw [Option.bind_eq_some_iff] at hs
    obtain ⟨n, hl, hs⟩ := hs
    refine ⟨_, hs, fun Γ ρ h w cargs hI hargs hH hn hfree => ?_⟩
    obtain ⟨ρg, _, h1, h2, _⟩ := sim_views hI.sim.baseLe hI.sim.old (viewArgs_ok (Q := fun _ => True) hI.sim ss args _ hargs x bs c hv hH (fun _ _ => trivial) hc)
    refine (hr x n hl ρg w cargs h2 h1).mono fun en w' ⟨ρg', cv, he, hvv, hJ⟩ => ?_
    obtain ⟨ρ', g1, g2, g3⟩ := after_pure hI (hg := Sh.entss ss x) (fun b blk hb => entss_norw hb) (es := [kEnt k n]) rfl hJ hn hfree
    refine ⟨ρ', cv, he, g1, ?_, g3⟩
    have q := g2 0 (by simp)
    simp only [Nat.add_zero, entss_length] at q
    simp only [VR] at hvv ⊢
    obtain ⟨fs, cs, h2, h3, h4⟩ := hvv
    refine ⟨fs, cs, h2, h3.nil_any, ?_⟩
    have hl4 := h4.length
    match cs, hl4, h4 with
    | ⟨[u]⟩, _, h4 =>
      simp only [VRs, VR] at h4 ⊢
      rw [q]; exact h4

end Go.Ab
/-
  CORE 30: the arguments of a row, opened: what is read as data is a pure value, its slices blocks that lay there.
-/
set_option linter.unusedVariables false
set_option linter.unusedSimpArgs false
namespace Go.Ab

mutual
/-- Does a type have the shape? -/
def Sh.fits (P : Program) : Sh → TypeId → Bool
  | .int k, t => decide (P.cellsOf t = 1) && (match P.underlying t with
    | some (.int k') => decide (k' = k)
    | _ => false)
  | .bool, t => decide (P.cellsOf t = 1) && (match P.underlying t with
    | some .bool => true
    | _ => false)
  | .str, t => decide (P.cellsOf t = 1) && (match P.underlying t with
    | some .string => true
    | _ => false)
  | .st l, t => decide (P.cellsOf t = Sh.ws l) && (match P.underlying t with
    | some (.struct fs) => Sh.fitsF P l fs.toList 0
    | some (.array n e) => decide (l.length = n) && Sh.fitsE P l e
    | _ => false)
  | .sl e, t => decide (P.cellsOf t = 1) && (match P.underlying t with
    | some (.slice el) => Sh.flat e && Sh.fits P e el && decide (0 < Sh.w e)
    | _ => false)
  | .rows e, t => decide (P.cellsOf t = 1) && (match P.underlying t with
    | some (.slice el) => decide (P.cellsOf el = 1) && (match P.underlying el with
      | some (.slice el2) => Sh.flat e && Sh.fits P e el2 && decide (Sh.w e = 1)
      | _ => false)
    | _ => false)
def Sh.fitsF (P : Program) : List Sh → List Field → Nat → Bool
  | [], [], _ => true
  | s :: l, f :: fs, o => decide (f.offset = o) && Sh.fits P s f.type && Sh.fitsF P l fs (o + Sh.w s)
  | _, _, _ => false
def Sh.fitsE (P : Program) : List Sh → TypeId → Bool
  | [], _ => true
  | s :: l, e => Sh.fits P s e && Sh.fitsE P l e
end

theorem fits_cells {P : Program} {s : Sh} {t : TypeId} (h : s.fits P t = true) : P.cellsOf t = s.w := by
  cases s <;> simp only [Sh.fits, Bool.and_eq_true, decide_eq_true_eq] at h <;> simp [Sh.w, h.1]

theorem wf_range {k : IntKind} {n : Int} (h : (Lit.int k n).wf = true) : k.min ≤ n ∧ n ≤ k.max := by
  simpa [Lit.wf] using h

section
variable {H : Type} {enc : TypeId × Value → H} {P : Program} {W : World} {sp : Nat → Bool}

mutual
theorem flat_open : ∀ (s : Sh) (fuel : Nat) (t : TypeId) (cs : List Value) (x : DataW H × List MemPlace), s.flat = true → s.fits P t = true → DataW.trod enc P W 0 sp true fuel t cs = some x → ∃ y : s.T, s.ok y ∧ cs = s.enc y
  | .int k, fuel, t, cs, x, _, hf, h => by
    simp only [Sh.fits, Bool.and_eq_true] at hf
    have hf := hf.2
    split at hf
    · rename_i k' hu
      have hk : k' = k := by simpa using hf
      subst hk
      obtain ⟨n, h1, _, h3⟩ := DataW.trod_int hu h
      exact ⟨n, by simp only [Sh.ok]; exact wf_range h3, h1⟩
    · cases hf
  | .bool, fuel, t, cs, x, _, hf, h => by
    simp only [Sh.fits, Bool.and_eq_true] at hf
    have hf := hf.2
    split at hf
    · rename_i hu
      obtain ⟨b, h1, _⟩ := DataW.trod_bool hu h
      exact ⟨b, by simp [Sh.ok], h1⟩
    · cases hf
  | .str, fuel, t, cs, x, _, hf, h => by
    simp only [Sh.fits, Bool.and_eq_true] at hf
    have hf := hf.2
    split at hf
    · rename_i hu
      obtain ⟨b, h1, _, h2⟩ := DataW.trod_string hu h
      exact ⟨b, by simp only [Sh.ok]; simpa [maxLen] using h2, h1⟩
    · cases hf
  | .st l, fuel, t, cs, x, hfl, hf, h => by
    simp only [Sh.fits, Bool.and_eq_true, decide_eq_true_eq] at hf
    obtain ⟨hw, hf⟩ := hf
    simp only [Sh.flat] at hfl
    split at hf
    · rename_i fs hu
      obtain ⟨xs, n, _, _, hlen, hxl, hat⟩ := DataW.trod_struct hu h
      obtain ⟨y, h1, h2⟩ := flat_fields l fs.toList 0 n cs xs hfl hf (by simpa using hxl) (fun i f hi => hat i f (by simpa using hi)) (by rw [hlen, hw]; simp)
      exact ⟨y, by simpa [Sh.ok] using h1, by simpa [Sh.enc] using h2⟩
    · rename_i n e hu
      simp only [Bool.and_eq_true, decide_eq_true_eq] at hf
      obtain ⟨xs, m, _, _, hlen, hxl, hat⟩ := DataW.trod_array hu h
      obtain ⟨y, h1, h2⟩ := flat_elems l e 0 m cs xs hfl hf.2 (fun i hi => by
        have := hat i (by omega)
        rw [Nat.zero_add]; exact this) (by omega) (by rw [hlen, hw]; simp)
      exact ⟨y, by simpa [Sh.ok] using h1, by simpa [Sh.enc] using h2⟩
    · cases hf
  | .sl _, _, _, _, _, h, _, _ => by simp [Sh.flat] at h
  | .rows _, _, _, _, _, h, _, _ => by simp [Sh.flat] at h
theorem flat_fields : ∀ (l : List Sh) (fs : List Field) (o n : Nat) (cs : List Value) (xs : List (DataW H × List MemPlace)), Sh.flats l = true → Sh.fitsF P l fs o = true → xs.length = fs.length →
    (∀ (i : Nat) (f : Field), fs[i]? = some f → DataW.trod enc P W 0 sp true n f.type ((cs.drop f.offset).take (P.cellsOf f.type)) = xs[i]?) → cs.length = o + Sh.ws l → ∃ y : Sh.Ts l, Sh.oks l y ∧ cs.drop o = Sh.encs l y
  | [], [], o, n, cs, xs, _, _, _, _, hl => ⟨(), by simp [Sh.oks], by simp [Sh.encs, Sh.ws] at hl ⊢; omega⟩
  | [], _ :: _, o, n, cs, xs, _, hf, _, _, _ => by simp [Sh.fitsF] at hf
  | _ :: _, [], o, n, cs, xs, _, hf, _, _, _ => by simp [Sh.fitsF] at hf
  | s :: l, f :: fs, o, n, cs, xs, hfl, hf, hx, hat, hl => by
    simp only [Sh.flats, Bool.and_eq_true] at hfl
    simp only [Sh.fitsF, Bool.and_eq_true, decide_eq_true_eq] at hf
    obtain ⟨⟨ho, hfs⟩, hfr⟩ := hf
    cases xs with
    | nil => simp at hx
    | cons x xs =>
      have h0 := hat 0 f rfl
      rw [ho, fits_cells hfs] at h0
      obtain ⟨y, h1, h2⟩ := flat_open s n f.type _ x hfl.1 hfs h0
      obtain ⟨ys, h3, h4⟩ := flat_fields l fs (o + s.w) n cs xs hfl.2 hfr (by simpa using hx) (fun i g hi => by simpa using hat (i + 1) g (by simpa using hi)) (by simp only [Sh.ws] at hl; omega)
      refine ⟨(y, ys), by simp only [Sh.oks]; exact ⟨h1, h3⟩, ?_⟩
      simp only [Sh.encs]
      rw [← h2, ← h4, ← List.drop_drop, List.take_append_drop]
theorem flat_elems : ∀ (l : List Sh) (e : TypeId) (k n : Nat) (cs : List Value) (xs : List (DataW H × List MemPlace)), Sh.flats l = true → Sh.fitsE P l e = true →
    (∀ (i : Nat), i < l.length → DataW.trod enc P W 0 sp true n e ((cs.drop ((k + i) * P.cellsOf e)).take (P.cellsOf e)) = xs[k + i]?) → k + l.length ≤ xs.length → cs.length = k * P.cellsOf e + Sh.ws l → ∃ y : Sh.Ts l, Sh.oks l y ∧ cs.drop (k * P.cellsOf e) = Sh.encs l y
  | [], e, k, n, cs, xs, _, _, _, _, hl => ⟨(), by simp [Sh.oks], by simp [Sh.encs, Sh.ws] at hl ⊢; omega⟩
  | s :: l, e, k, n, cs, xs, hfl, hf, hat, hx, hl => by
    simp only [Sh.flats, Bool.and_eq_true] at hfl
    simp only [Sh.fitsE, Bool.and_eq_true] at hf
    have hc := fits_cells hf.1
    have h0 := hat 0 (by simp)
    simp only [Nat.add_zero] at h0
    simp only [List.length_cons] at hx
    obtain ⟨x, hx0⟩ : ∃ x, xs[k]? = some x := ⟨xs[k]'(by omega), List.getElem?_eq_getElem _⟩
    rw [hx0] at h0
    obtain ⟨y, h1, h2⟩ := flat_open s n e _ x hfl.1 hf.1 h0
    obtain ⟨ys, h3, h4⟩ := flat_elems l e (k + 1) n cs xs hfl.2 hf.2 (fun i hi => by
      have := hat (i + 1) (by simpa using hi)
      rw [show k + (i + 1) = k + 1 + i by omega] at this; exact this) (by omega) (by simp only [Sh.ws] at hl; rw [Nat.add_mul, hl, hc]; omega)
    refine ⟨(y, ys), by simp only [Sh.oks]; exact ⟨h1, h3⟩, ?_⟩
    simp only [Sh.encs]
    rw [← h2, ← h4, Nat.add_mul, Nat.one_mul, ← List.drop_drop, List.take_append_drop]
end

theorem cells?_spec {a : Addr} {n : Nat} {cs : List Value} (h : W.cells? 0 a n = some cs) : cs.length = n ∧ ∀ (j : Nat) (v : Value), cs[j]? = some v → W.cell? (a.add j) = some v := by
  simp only [World.cells?, Nat.zero_le, if_true] at h
  have key : ∀ (l : List Nat) (cs : List Value), (l.mapM fun i => W.cell? (a.add i)) = some cs → cs.length = l.length ∧ ∀ (j : Nat) (v : Value), cs[j]? = some v → ∃ i, l[j]? = some i ∧ W.cell? (a.add i) = some v := by
    intro l
    induction l with
    | nil => intro cs h; simp at h; subst h; exact ⟨rfl, fun j v hj => by simp at hj⟩
    | cons i l ih =>
      intro cs h
      simp only [List.mapM_cons, Option.bind_eq_bind, Option.bind_eq_some_iff] at h
      obtain ⟨v0, h0, cs', h1, h2⟩ := h
      simp at h2; subst h2
      obtain ⟨i1, i2⟩ := ih cs' h1
      refine ⟨by simp [i1], fun j v hj => ?_⟩
      cases j with
      | zero => simp at hj; subst hj; exact ⟨i, rfl, h0⟩
      | succ j => simpa using i2 j v (by simpa using hj)
  obtain ⟨h1, h2⟩ := key _ cs h
  refine ⟨by simpa using h1, fun j v hj => ?_⟩
  obtain ⟨i, h3, h4⟩ := h2 j v hj
  have : i = j := by
    rw [List.getElem?_eq_some_iff] at h3
    obtain ⟨h5, h6⟩ := h3
    simpa using h6.symm
  rw [← this]; exact h4

theorem getElem?_flatMap_block {α : Type} (f : α → List Value) (w : Nat) (hw : 0 < w) : ∀ (l : List α), (∀ y ∈ l, (f y).length = w) → ∀ (j : Nat), (l.flatMap f)[j]? = (l[j / w]?).bind fun y => (f y)[j % w]?
  | [], _, j => by simp
  | y :: l, h, j => by
    have hy := h y (List.mem_cons_self ..)
    rw [List.flatMap_cons]
    by_cases hj : j < w
    · rw [List.getElem?_append_left (by omega), Nat.div_eq_of_lt hj, Nat.mod_eq_of_lt hj]; simp
    · rw [List.getElem?_append_right (by omega), hy, getElem?_flatMap_block f w hw l (fun z hz => h z (List.mem_cons_of_mem _ hz))]
      have e1 : j / w = (j - w) / w + 1 := by
        rw [Nat.div_eq_sub_div hw (by omega)]
      have e2 : j % w = (j - w) % w := by
        rw [Nat.mod_eq_sub_mod (by omega)]
      rw [e1, e2]; simp

/-- A slice of what holds no slice. -/
theorem slice_open {e : Sh} {el : TypeId} {n : Nat} {a : Addr} {len : Nat} {elems : List (DataW H × List MemPlace)} (hfl : e.flat = true) (hf : e.fits P el = true) (hw : 0 < e.w) (hlen : elems.length = len)
    (hat : ∀ i, i < len → (W.cells? 0 (a.add (i * P.cellsOf el)) (P.cellsOf el)).bind (DataW.trod enc P W 0 sp true n el) = elems[i]?) :
    ∃ y : List e.T, y.length = len ∧ (∀ z ∈ y, e.ok z) ∧ ∀ (j : Nat) (v : Value), (y.flatMap e.enc)[j]? = some v → W.cell? (a.add j) = some v := by
  have hc := fits_cells hf
  have key : ∀ k, k ≤ len → ∃ y : List e.T, y.length = k ∧ (∀ z ∈ y, e.ok z) ∧ ∀ (i : Nat) (z : e.T), y[i]? = some z → ∀ (j : Nat) (v : Value), (e.enc z)[j]? = some v → W.cell? (a.add (i * e.w + j)) = some v := by
    intro k
    induction k with
    | zero => intro _; exact ⟨[], rfl, by simp, by simp⟩
    | succ k ih =>
      intro hk
      obtain ⟨y, h1, h2, h3⟩ := ih (by omega)
      have h4 := hat k (by omega)
      obtain ⟨x, hx⟩ : ∃ x, elems[k]? = some x := ⟨elems[k]'(by omega), List.getElem?_eq_getElem _⟩
      rw [hx, Option.bind_eq_some_iff] at h4
      obtain ⟨cs, h5, h6⟩ := h4
      obtain ⟨z, h7, h8⟩ := flat_open e n el cs x hfl hf h6
      obtain ⟨h9, h10⟩ := cells?_spec h5
      refine ⟨y ++ [z], by simp [h1], fun u hu => ?_, fun i u hi j v hj => ?_⟩
      · rcases List.mem_append.1 hu with hu | hu
        · exact h2 u hu
        · simp at hu; subst hu; exact h7
      · by_cases hik : i < k
        · rw [List.getElem?_append_left (by omega)] at hi
          exact h3 i u hi j v hj
        · rw [List.getElem?_append_right (by omega)] at hi
          have : i = k := by
            rcases Nat.lt_or_ge i (k + 1) with h' | h'
            · omega
            · rw [List.getElem?_eq_none (by simp; omega)] at hi; cases hi
          subst this
          simp [h1] at hi; subst hi
          have := h10 j v (by rw [h8]; exact hj)
          rw [hc] at this
          rw [← this]
          congr 1
          unfold Addr.add
          by_cases q1 : i * e.w = 0
          · simp [q1]
          · by_cases q2 : j = 0
            · simp [q2, q1]
            · rw [if_neg (by omega), if_neg q1, if_neg q2]; simp [Nat.add_assoc]
  obtain ⟨y, h1, h2, h3⟩ := key len (Nat.le_refl _)
  refine ⟨y, h1, h2, fun j v hj => ?_⟩
  rw [getElem?_flatMap_block e.enc e.w hw y (fun z _ => enc_length e z hfl), Option.bind_eq_some_iff] at hj
  obtain ⟨z, h4, h5⟩ := hj
  have := h3 (j / e.w) z h4 (j % e.w) v h5
  rw [show j / e.w * e.w + j % e.w = j from Nat.div_add_mod' j e.w] at this
  exact this

theorem spot_none {a : Addr} {v : Value} {j : Nat} (h : W.cell? (a.add j) = some v) : j = 0 → a.spot = none := by
  intro hj; subst hj
  simp only [Addr.add, if_true, World.cell?] at h
  split at h
  · split at h
    · cases h
    · rename_i hs; simpa using hs
  · cases h

def Opens (P : Program) (W : World) (s : Sh) (cs : List Value) : Prop :=
  ∃ y : s.T, s.ok y ∧ ∃ c : List (Nat × Nat × Nat), c.length = s.ne ∧ ∀ (ρ : Ren) (next : Nat), ρ.base = W → (∀ (i : Nat) (d : Nat × Nat × Nat), c[i]? = some d → ρ (next + i) = some d) →
    VRs ρ (s.cells y next) cs ∧ ∀ (i : Nat) (blk : Blk), (s.ents y)[i]? = some (.live blk) → ∃ d : Nat × Nat × Nat, c[i]? = some d ∧ CellsAt ρ W d.1 d.2.1 blk.cells

def OpensL (P : Program) (W : World) (l : List Sh) (cs : List Value) : Prop :=
  ∃ y : Sh.Ts l, Sh.oks l y ∧ ∃ c : List (Nat × Nat × Nat), c.length = Sh.nes l ∧ ∀ (ρ : Ren) (next : Nat), ρ.base = W → (∀ (i : Nat) (d : Nat × Nat × Nat), c[i]? = some d → ρ (next + i) = some d) →
    VRs ρ (Sh.cellss l y next) cs ∧ ∀ (i : Nat) (blk : Blk), (Sh.entss l y)[i]? = some (.live blk) → ∃ d : Nat × Nat × Nat, c[i]? = some d ∧ CellsAt ρ W d.1 d.2.1 blk.cells

theorem OpensL.nil : OpensL P W [] [] := ⟨(), by simp [Sh.oks], [], rfl, fun ρ next _ _ => ⟨by simp [Sh.cellss, VRs], fun i blk h => by simp [Sh.entss] at h⟩⟩
theorem OpensL.cons {s : Sh} {l : List Sh} {c1 c2 : List Value} (h1 : Opens P W s c1) (h2 : OpensL P W l c2) : OpensL P W (s :: l) (c1 ++ c2) := by
  obtain ⟨y, o1, d1, l1, f1⟩ := h1
  obtain ⟨z, o2, d2, l2, f2⟩ := h2
  refine ⟨(y, z), by simp only [Sh.oks]; exact ⟨o1, o2⟩, d1 ++ d2, by simp [Sh.nes, l1, l2], fun ρ next hb hρ => ?_⟩
  obtain ⟨a1, a2⟩ := f1 ρ next hb fun i d hi => hρ i d (by rw [List.getElem?_append_left]; exact hi; exact (List.getElem?_eq_some_iff.1 hi).1)
  obtain ⟨b1, b2⟩ := f2 ρ (next + s.ne) hb fun i d hi => by
    have := hρ (s.ne + i) d (by rw [List.getElem?_append_right (by omega), l1, Nat.add_sub_cancel_left]; exact hi)
    rw [Nat.add_assoc]; exact this
  refine ⟨by simp only [Sh.cellss]; exact a1.append b1, fun i blk hi => ?_⟩
  simp only [Sh.entss] at hi
  have el := ents_length s y
  by_cases hil : i < s.ne
  · rw [List.getElem?_append_left (by omega)] at hi
    obtain ⟨d, h3, h4⟩ := a2 i blk hi
    exact ⟨d, by rw [List.getElem?_append_left (by omega)]; exact h3, h4⟩
  · rw [List.getElem?_append_right (by omega), el] at hi
    obtain ⟨d, h3, h4⟩ := b2 (i - s.ne) blk hi
    exact ⟨d, by rw [List.getElem?_append_right (by omega), l1]; exact h3, h4⟩
end

end Go.Ab
/-
  CORE 31: the arguments of a row, opened: any shape.
-/
set_option linter.unusedVariables false
set_option linter.unusedSimpArgs false
namespace Go.Ab
open Go.ChangeShapes Go.RowKit

section
variable {H : Type} {enc : TypeId × Value → H} {P : Program} {W : World}

theorem add_none {a : Addr} (h : a.spot = none) (j : Nat) : a.add j = ⟨a.block, a.off + j, none⟩ := by
  unfold Addr.add
  split
  · rename_i h0; subst h0; cases a; simp at h; subst h; rfl
  · first | rfl | (rw [h]; done) | (simp [h])

/-- A slice that is read with all it may grow over: where it may hold anything, it lies at a plain place. -/
theorem slice_spot {e : Sh} {el : TypeId} {n : Nat} {a : Addr} {len cap : Nat} {elems rest : List (DataW H × List MemPlace)} (hw : 0 < P.cellsOf el) (hlc : len ≤ cap) (hlen : elems.length = len) (hrl : rest.length = cap - len)
    (hat : ∀ i, i < len → (W.cells? 0 (a.add (i * P.cellsOf el)) (P.cellsOf el)).bind (DataW.trod enc P W 0 (fun _ => true) true n el) = elems[i]?)
    (hrt : ∀ j, j < cap - len → (W.cells? 0 (a.add ((len + j) * P.cellsOf el)) (P.cellsOf el)).bind (DataW.trod enc P W 0 (fun _ => true) true n el) = rest[j]?) : cap = 0 ∨ a.spot = none := by
  rcases Nat.eq_zero_or_pos cap with h0 | h0
  · exact .inl h0
  refine .inr ?_
  have key : ∀ (x : Option (DataW H × List MemPlace)), (W.cells? 0 (a.add 0) (P.cellsOf el)).bind (DataW.trod enc P W 0 (fun _ => true) true n el) = x → x ≠ none → a.spot = none := by
    intro x hx hne
    cases hc : W.cells? 0 (a.add 0) (P.cellsOf el) with
    | none => rw [hc] at hx; exact absurd hx.symm hne
    | some cs =>
      obtain ⟨h1, h2⟩ := cells?_spec hc
      have h3 := h2 0 cs[0] (List.getElem?_eq_getElem (by omega))
      have : (a.add 0).add 0 = a.add 0 := by simp [Addr.add]
      rw [this] at h3
      exact spot_none h3 rfl
  by_cases hl : 0 < len
  · have := hat 0 hl
    rw [Nat.zero_mul] at this
    exact key _ this (by rw [List.getElem?_eq_getElem (by omega)]; simp)
  · have := hrt 0 (by omega)
    rw [show len + 0 = 0 by omega, Nat.zero_mul] at this
    exact key _ this (by rw [List.getElem?_eq_getElem (by omega)]; simp)

theorem flatMap_one_length {α : Type} (f : α → List Value) : ∀ (l : List α), (∀ y ∈ l, (f y).length = 1) → (l.flatMap f).length = l.length
  | [], _ => rfl
  | y :: l, h => by
    rw [List.flatMap_cons, List.length_append, h y (List.mem_cons_self ..), flatMap_one_length f l fun z hz => h z (List.mem_cons_of_mem _ hz), List.length_cons, Nat.add_comm]

/-- One row of rows. -/
theorem row_open {e : Sh} {el el2 : TypeId} (hu : P.underlying el = some (.slice el2)) (hfl : e.flat = true) (hf : e.fits P el2 = true) (hw : e.w = 1) {fuel : Nat} {cs : List Value} {x : DataW H × List MemPlace}
    (h : DataW.trod enc P W 0 (fun _ => true) true fuel el cs = some x) : ∃ y : List e.T, ((∀ z ∈ y, e.ok z) ∧ y.length ≤ 9223372036854775807) ∧ ∃ cv, cs = [cv] ∧ RowIn W cv (y.flatMap e.enc) := by
  rcases DataW.trod_slice hu h with ⟨h1, _⟩ | ⟨a, len, cap, elems, rest, n, _, h1, _, _, hlc, hcm, hel, hat, hrt, _⟩
  · exact ⟨[], ⟨by simp, by simp⟩, _, h1, .inl ⟨rfl, none, rfl⟩⟩
  · obtain ⟨y, h2, h3, h4⟩ := slice_open hfl hf (by omega) hel hat
    have hc := fits_cells hf
    have hlen : (y.flatMap e.enc).length = len := by rw [flatMap_one_length _ _ fun z _ => by rw [enc_length e z hfl, hw], h2]
    refine ⟨y, ⟨h3, by simp only [maxLen] at hcm; omega⟩, _, h1, ?_⟩
    obtain ⟨hr1, hr2⟩ := hrt rfl
    rcases slice_spot (e := e) (by omega) hlc hel hr1 hat hr2 with h5 | h5
    · have hl0 : len = 0 := by omega
      subst hl0; subst h5
      exact .inl ⟨List.length_eq_zero_iff.1 hlen, _, rfl⟩
    · refine .inr ⟨a.block, a.off, cap, ?_, by omega, fun j v hj => ?_⟩
      · rw [hlen]; cases a; simp at h5; subst h5; rfl
      · rw [← add_none h5]; exact h4 j v hj

theorem Opens.flat0 {s : Sh} {cs : List Value} {y : s.T} (hy : s.ok y) (hn : s.ne = 0) (hv : ∀ (ρ : Ren) next, VRs ρ (s.cells y next) cs) : Opens P W s cs :=
  ⟨y, hy, [], hn.symm, fun ρ next _ _ => ⟨hv ρ next, fun i blk hi => by
    have := ents_length s y
    rw [hn] at this
    rw [List.length_eq_zero_iff.1 this] at hi
    simp at hi⟩⟩

mutual
theorem open_sh : ∀ (s : Sh) (fuel : Nat) (t : TypeId) (cs : List Value) (x : DataW H × List MemPlace), s.fits P t = true → DataW.trod enc P W 0 (fun _ => true) true fuel t cs = some x → Opens P W s cs
  | .int k, fuel, t, cs, x, hf, h => by
    obtain ⟨y, h1, h2⟩ := flat_open (.int k) fuel t cs x rfl hf h
    exact .flat0 h1 rfl fun ρ next => by rw [h2]; simp [Sh.cells, Sh.enc, VRs, VR]
  | .bool, fuel, t, cs, x, hf, h => by
    obtain ⟨y, h1, h2⟩ := flat_open .bool fuel t cs x rfl hf h
    exact .flat0 h1 rfl fun ρ next => by rw [h2]; simp [Sh.cells, Sh.enc, VRs, VR]
  | .str, fuel, t, cs, x, hf, h => by
    obtain ⟨y, h1, h2⟩ := flat_open .str fuel t cs x rfl hf h
    exact .flat0 h1 rfl fun ρ next => by rw [h2]; simp [Sh.cells, Sh.enc, VRs, VR]
  | .st l, fuel, t, cs, x, hf, h => by
    simp only [Sh.fits, Bool.and_eq_true, decide_eq_true_eq] at hf
    obtain ⟨hw, hf⟩ := hf
    have key : OpensL P W l cs → Opens P W (.st l) cs := by
      rintro ⟨y, h1, c, h2, h3⟩
      exact ⟨y, h1, c, h2, h3⟩
    refine key ?_
    split at hf
    · rename_i fs hu
      obtain ⟨xs, n, _, _, hlen, hxl, hat⟩ := DataW.trod_struct hu h
      exact open_fields l fs.toList 0 n cs xs hf (by simpa using hxl) (fun i f hi => hat i f (by simpa using hi)) (by rw [hlen, hw]; simp)
    · rename_i n e hu
      simp only [Bool.and_eq_true, decide_eq_true_eq] at hf
      obtain ⟨xs, m, _, _, hlen, hxl, hat⟩ := DataW.trod_array hu h
      have := open_elems l e 0 m cs xs hf.2 (fun i hi => by
        have := hat i (by omega)
        rw [Nat.zero_add]; exact this) (by omega) (by rw [hlen, hw]; simp)
      simpa using this
    · cases hf
  | .sl e, fuel, t, cs, x, hf, h => by
    simp only [Sh.fits, Bool.and_eq_true, decide_eq_true_eq] at hf
    obtain ⟨_, hf⟩ := hf
    split at hf
    case h_2 => cases hf
    rename_i el hu
    simp only [Bool.and_eq_true, decide_eq_true_eq] at hf
    obtain ⟨⟨hfl, hfe⟩, hw⟩ := hf
    have hc := fits_cells hfe
    rcases DataW.trod_slice hu h with ⟨h1, _⟩ | ⟨a, len, cap, elems, rest, n, _, h1, _, _, hlc, hcm, hel, hat, hrt, _⟩
    · refine ⟨[], by simp [Sh.ok], [(0, 0, 0)], rfl, fun ρ next hb hρ => ⟨?_, fun i blk hi => ?_⟩⟩
      · simp only [Sh.cells, h1, VRs, VR]
        exact ⟨.inr ⟨rfl, none, rfl⟩, trivial⟩
      · simp only [Sh.ents] at hi
        cases i with
        | succ i => simp at hi
        | zero =>
          simp at hi; subst hi
          exact ⟨(0, 0, 0), rfl, fun j v hj => by simp [Sh.flatl] at hj⟩
    · obtain ⟨y, h2, h3, h4⟩ := slice_open hfl hfe hw hel hat
      obtain ⟨hr1, hr2⟩ := hrt rfl
      have hsp := slice_spot (e := e) (by omega) hlc hel hr1 hat hr2
      refine ⟨y, by simp only [Sh.ok]; exact ⟨h3, by simp only [maxLen] at hcm; omega⟩, [(a.block, a.off, 0)], rfl, fun ρ next hb hρ => ⟨?_, fun i blk hi => ?_⟩⟩
      · simp only [Sh.cells, h1, VRs, VR]
        refine ⟨?_, trivial⟩
        rcases hsp with h5 | h5
        · refine .inr ⟨by rw [h2]; omega, some a, ?_⟩
          rw [h5, show len = 0 by omega]
        · refine .inl ⟨a.block, a.off, 0, cap, by simpa using hρ 0 _ rfl, by omega, ?_⟩
          rw [h2]; cases a; simp at h5; subst h5; rfl
      · simp only [Sh.ents] at hi
        cases i with
        | succ i => simp at hi
        | zero =>
          simp at hi; subst hi
          refine ⟨(a.block, a.off, 0), rfl, fun j v hj => ?_⟩
          rcases hsp with h5 | h5
          · have : y = [] := List.length_eq_zero_iff.1 (by omega)
            subst this; simp [Sh.flatl] at hj
          · show W.cell? ⟨a.block, a.off + j, none⟩ = some v
            rw [← add_none h5]; exact h4 j v hj
  | .rows e, fuel, t, cs, x, hf, h => by
    simp only [Sh.fits, Bool.and_eq_true, decide_eq_true_eq] at hf
    obtain ⟨_, hf⟩ := hf
    split at hf
    case h_2 => cases hf
    rename_i el hu
    simp only [Bool.and_eq_true, decide_eq_true_eq] at hf
    obtain ⟨hc1, hf⟩ := hf
    split at hf
    case h_2 => cases hf
    rename_i el2 hu2
    simp only [Bool.and_eq_true, decide_eq_true_eq] at hf
    obtain ⟨⟨hfl, hfe⟩, hw⟩ := hf
    rcases DataW.trod_slice hu h with ⟨h1, _⟩ | ⟨a, len, cap, elems, rest, n, _, h1, _, _, hlc, hcm, hel, hat, hrt, _⟩
    · refine ⟨[], by simp [Sh.ok], [(0, 0, 0)], rfl, fun ρ next hb hρ => ⟨?_, fun i blk hi => ?_⟩⟩
      · simp only [Sh.cells, h1, VRs, VR]
        exact ⟨.inr ⟨rfl, none, rfl⟩, trivial⟩
      · simp only [Sh.ents] at hi
        cases i with
        | succ i => simp at hi
        | zero =>
          simp at hi; subst hi
          exact ⟨(0, 0, 0), rfl, fun j v hj => by simp at hj⟩
    · obtain ⟨hr1, hr2⟩ := hrt rfl
      have hsp := slice_spot (e := e) (by omega) hlc hel hr1 hat hr2
      have key : ∀ k, k ≤ len → ∃ y : List (List e.T), y.length = k ∧ (∀ r ∈ y, (∀ z ∈ r, e.ok z) ∧ r.length ≤ 9223372036854775807) ∧ ∀ (i : Nat) (r : List e.T), y[i]? = some r → ∃ cv, W.cell? (a.add i) = some cv ∧ RowIn W cv (r.flatMap e.enc) := by
        intro k
        induction k with
        | zero => intro _; exact ⟨[], rfl, by simp, by simp⟩
        | succ k ih =>
          intro hk
          obtain ⟨y, h2, h3, h4⟩ := ih (by omega)
          have h5 := hat k (by omega)
          obtain ⟨x, hx⟩ : ∃ x, elems[k]? = some x := ⟨elems[k]'(by omega), List.getElem?_eq_getElem _⟩
          rw [hx, Option.bind_eq_some_iff, hc1, Nat.mul_one] at h5
          obtain ⟨cs', h6, h7⟩ := h5
          obtain ⟨r, h8, cv, h9, h10⟩ := row_open hu2 hfl hfe hw h7
          obtain ⟨_, h11⟩ := cells?_spec h6
          refine ⟨y ++ [r], by simp [h2], fun r' hr' => ?_, fun i r' hi => ?_⟩
          · rcases List.mem_append.1 hr' with hr' | hr'
            · exact h3 r' hr'
            · simp at hr'; subst hr'; exact h8
          · by_cases hik : i < k
            · rw [List.getElem?_append_left (by omega)] at hi
              exact h4 i r' hi
            · rw [List.getElem?_append_right (by omega)] at hi
              have : i = k := by
                rcases Nat.lt_or_ge i (k + 1) with h' | h'
                · omega
                · rw [List.getElem?_eq_none (by simp; omega)] at hi; cases hi
              subst this
              simp [h2] at hi; subst hi
              have := h11 0 cv (by rw [h9]; rfl)
              exact ⟨cv, by simpa [Addr.add] using this, h10⟩
      obtain ⟨y, h2, h3, h4⟩ := key len (Nat.le_refl _)
      refine ⟨y, by simp only [Sh.ok]; exact ⟨h3, by simp only [maxLen] at hcm; omega⟩, [(a.block, a.off, 0)], rfl, fun ρ next hb hρ => ⟨?_, fun i blk hi => ?_⟩⟩
      · simp only [Sh.cells, h1, VRs, VR]
        refine ⟨?_, trivial⟩
        rcases hsp with h5 | h5
        · refine .inr ⟨by rw [h2]; omega, some a, ?_⟩
          rw [h5, show len = 0 by omega]
        · refine .inl ⟨a.block, a.off, 0, cap, by simpa using hρ 0 _ rfl, by omega, ?_⟩
          rw [h2]; cases a; simp at h5; subst h5; rfl
      · simp only [Sh.ents] at hi
        cases i with
        | succ i => simp at hi
        | zero =>
          simp at hi; subst hi
          refine ⟨(a.block, a.off, 0), rfl, fun j r hj => ?_⟩
          obtain ⟨cv, h6, h7⟩ := h4 j r hj
          refine ⟨cv, ?_, by rw [hb]; exact h7⟩
          rcases hsp with h5 | h5
          · have : y = [] := List.length_eq_zero_iff.1 (by omega)
            subst this; simp at hj
          · show W.cell? ⟨a.block, a.off + j, none⟩ = some cv
            rw [← add_none h5]; exact h6
theorem open_fields : ∀ (l : List Sh) (fs : List Field) (o n : Nat) (cs : List Value) (xs : List (DataW H × List MemPlace)), Sh.fitsF P l fs o = true → xs.length = fs.length →
    (∀ (i : Nat) (f : Field), fs[i]? = some f → DataW.trod enc P W 0 (fun _ => true) true n f.type ((cs.drop f.offset).take (P.cellsOf f.type)) = xs[i]?) → cs.length = o + Sh.ws l → OpensL P W l (cs.drop o)
  | [], [], o, n, cs, xs, _, _, _, hl => by
    have : cs.drop o = [] := by simp [Sh.ws] at hl ⊢; omega
    rw [this]; exact .nil
  | [], _ :: _, o, n, cs, xs, hf, _, _, _ => by simp [Sh.fitsF] at hf
  | _ :: _, [], o, n, cs, xs, hf, _, _, _ => by simp [Sh.fitsF] at hf
  | s :: l, f :: fs, o, n, cs, xs, hf, hx, hat, hl => by
    simp only [Sh.fitsF, Bool.and_eq_true, decide_eq_true_eq] at hf
    obtain ⟨⟨ho, hfs⟩, hfr⟩ := hf
    cases xs with
    | nil => simp at hx
    | cons x xs =>
      have h0 := hat 0 f rfl
      rw [ho, fits_cells hfs] at h0
      have h1 := open_sh s n f.type _ x hfs h0
      have h2 := open_fields l fs (o + s.w) n cs xs hfr (by simpa using hx) (fun i g hi => by simpa using hat (i + 1) g (by simpa using hi)) (by simp only [Sh.ws] at hl; omega)
      have := OpensL.cons h1 h2
      rwa [← List.drop_drop, List.take_append_drop] at this
theorem open_elems : ∀ (l : List Sh) (e : TypeId) (k n : Nat) (cs : List Value) (xs : List (DataW H × List MemPlace)), Sh.fitsE P l e = true →
    (∀ (i : Nat), i < l.length → DataW.trod enc P W 0 (fun _ => true) true n e ((cs.drop ((k + i) * P.cellsOf e)).take (P.cellsOf e)) = xs[k + i]?) → k + l.length ≤ xs.length → cs.length = k * P.cellsOf e + Sh.ws l → OpensL P W l (cs.drop (k * P.cellsOf e))
  | [], e, k, n, cs, xs, _, _, _, hl => by
    have : cs.drop (k * P.cellsOf e) = [] := by simp [Sh.ws] at hl ⊢; omega
    rw [this]; exact .nil
  | s :: l, e, k, n, cs, xs, hf, hat, hx, hl => by
    simp only [Sh.fitsE, Bool.and_eq_true] at hf
    have hc := fits_cells hf.1
    have h0 := hat 0 (by simp)
    simp only [Nat.add_zero] at h0
    simp only [List.length_cons] at hx
    obtain ⟨x, hx0⟩ : ∃ x, xs[k]? = some x := ⟨xs[k]'(by omega), List.getElem?_eq_getElem _⟩
    rw [hx0] at h0
    have h1 := open_sh s n e _ x hf.1 h0
    have h2 := open_elems l e (k + 1) n cs xs hf.2 (fun i hi => by
      have := hat (i + 1) (by simpa using hi)
      rw [show k + (i + 1) = k + 1 + i by omega] at this; exact this) (by omega) (by simp only [Sh.ws] at hl; rw [Nat.add_mul, hl, hc]; omega)
    have := OpensL.cons h1 h2
    rwa [Nat.add_mul, Nat.one_mul, ← List.drop_drop, List.take_append_drop] at this
end
end
end Go.Ab
/-
  CORE 32: from a contract to what a row asks of its law's call: it ends with 'true', and nothing that was there has turned.
-/
set_option linter.unusedVariables false
set_option linter.unusedSimpArgs false
namespace Go.Ab
open Go.ChangeShapes Go.RowKit Go.WideShapes

def Sh.fitsT (P : Program) : List Sh → List TypeId → Bool
  | [], [] => true
  | s :: l, t :: ts => s.fits P t && Sh.fitsT P l ts
  | _, _ => false

section
variable {H : Type} {enc : TypeId × Value → H} {P : Program} {W : World}

def OpensA (P : Program) (W : World) (l : List Sh) (vs : List Value) : Prop :=
  ∃ y : Sh.Ts l, Sh.oks l y ∧ ∃ c : List (Nat × Nat × Nat), c.length = Sh.nes l ∧ ∀ (ρ : Ren) (next : Nat), ρ.base = W → (∀ (i : Nat) (d : Nat × Nat × Nat), c[i]? = some d → ρ (next + i) = some d) →
    VRs ρ (Sh.args l y next) vs ∧ ∀ (i : Nat) (blk : Blk), (Sh.entss l y)[i]? = some (.live blk) → ∃ d : Nat × Nat × Nat, c[i]? = some d ∧ CellsAt ρ W d.1 d.2.1 blk.cells

theorem arg_open {s : Sh} {t : TypeId} {v : Value} {d : DataW H} {ps : List MemPlace} {base : Nat} (hf : s.fits P t = true) (hval : Value.okWide P W .any base t v) (h : DataW.Trod enc P W 0 (fun _ => true) true t v d ps) : Opens P W s v.cells.toList ∧ ∀ (ρ : Ren) (y : s.T) next, VRs ρ (s.cells y next) v.cells.toList → VR ρ (s.arg y next) v := by
  have hf0 := hf
  obtain ⟨fuel, hd⟩ := h
  refine ⟨open_sh s fuel t _ _ hf hd, ?_⟩
  intro ρ y next hv
  have one : ∀ (a : AV), v.cells = #[v] → VRs ρ [a] v.cells.toList → VR ρ a v := fun a h1 h2 => by
    rw [h1] at h2; simpa [VRs] using h2
  cases s with
  | int k =>
    simp only [Sh.fits, Bool.and_eq_true] at hf
    have hf := hf.2
    split at hf
    · rename_i hu
      obtain ⟨n, rfl⟩ := okWide_int hu hval
      exact one _ rfl hv
    · cases hf
  | bool =>
    simp only [Sh.fits, Bool.and_eq_true] at hf
    have hf := hf.2
    split at hf
    · rename_i hu
      obtain ⟨n, rfl⟩ := okWide_bool hu hval
      exact one _ rfl hv
    · cases hf
  | str =>
    simp only [Sh.fits, Bool.and_eq_true] at hf
    have hf := hf.2
    split at hf
    · rename_i hu
      obtain ⟨n, rfl⟩ := okWide_string hu hval
      exact one _ rfl hv
    · cases hf
  | sl e =>
    simp only [Sh.fits, Bool.and_eq_true] at hf
    have hf := hf.2
    split at hf
    · rename_i hu
      obtain ⟨a, len, cap, rfl⟩ := okWide_slice hu hval
      exact one _ rfl hv
    · cases hf
  | rows e =>
    simp only [Sh.fits, Bool.and_eq_true] at hf
    have hf := hf.2
    split at hf
    · rename_i hu
      obtain ⟨a, len, cap, rfl⟩ := okWide_slice hu hval
      exact one _ rfl hv
    · cases hf
  | st l =>
    have : ∃ cs, v = .agg cs := by
      simp only [Sh.fits, Bool.and_eq_true] at hf
      have hf := hf.2
      split at hf
      · rename_i fs hu
        simp only [Value.okWide, hu] at hval
        obtain ⟨cs, h1, _⟩ := hval
        exact ⟨cs, h1⟩
      · rename_i n e hu
        simp only [Value.okWide, hu] at hval
        obtain ⟨cs, h1, _⟩ := hval
        exact ⟨cs, h1⟩
      · cases hf
    obtain ⟨cs, rfl⟩ := this
    simp only [Sh.arg, VR]
    exact ⟨cs, rfl, by simpa [Value.cells, Sh.cells] using hv⟩

theorem args_open {base : Nat} : ∀ (l : List Sh) (ts : List TypeId) (vs : List Value) (ds : List (DataW H)) (ps : List MemPlace), Sh.fitsT P l ts = true → (∀ (j : Nat) t v, ts[j]? = some t → vs[j]? = some v → Value.okWide P W .any base t v) →
    DataW.TrodAll enc P W 0 (fun _ => true) true ts vs ds ps → OpensA P W l vs
  | [], [], vs, ds, ps, _, _, h => by
    obtain ⟨rfl, _, _⟩ := trodAll_nil h
    exact ⟨(), by simp [Sh.oks], [], rfl, fun ρ next _ _ => ⟨by simp [Sh.args, VRs], fun i blk h => by simp [Sh.entss] at h⟩⟩
  | [], _ :: _, vs, ds, ps, hf, _, _ => by simp [Sh.fitsT] at hf
  | _ :: _, [], vs, ds, ps, hf, _, _ => by simp [Sh.fitsT] at hf
  | s :: l, t :: ts, vs, ds, ps, hf, hval, h => by
    obtain ⟨v, vs', d, ds', p, q, rfl, rfl, rfl, h1, h2⟩ := trodAll_cons h
    simp only [Sh.fitsT, Bool.and_eq_true] at hf
    obtain ⟨⟨y, o1, d1, l1, f1⟩, harg⟩ := arg_open hf.1 (hval 0 t v rfl rfl) h1
    obtain ⟨z, o2, d2, l2, f2⟩ := args_open l ts vs' ds' q hf.2 (fun j t v ht hv => hval (j + 1) t v (by simpa using ht) (by simpa using hv)) h2
    refine ⟨(y, z), by simp only [Sh.oks]; exact ⟨o1, o2⟩, d1 ++ d2, by simp [Sh.nes, l1, l2], fun ρ next hb hρ => ?_⟩
    obtain ⟨a1, a2⟩ := f1 ρ next hb fun i d hi => hρ i d (by rw [List.getElem?_append_left]; exact hi; exact (List.getElem?_eq_some_iff.1 hi).1)
    obtain ⟨b1, b2⟩ := f2 ρ (next + s.ne) hb fun i d hi => by
      have := hρ (s.ne + i) d (by rw [List.getElem?_append_right (by omega), l1, Nat.add_sub_cancel_left]; exact hi)
      rw [Nat.add_assoc]; exact this
    refine ⟨by simp only [Sh.args, VRs]; exact ⟨harg ρ y next a1, b1⟩, fun i blk hi => ?_⟩
    simp only [Sh.entss] at hi
    have el := ents_length s y
    by_cases hil : i < s.ne
    · rw [List.getElem?_append_left (by omega)] at hi
      obtain ⟨d, h3, h4⟩ := a2 i blk hi
      exact ⟨d, by rw [List.getElem?_append_left (by omega)]; exact h3, h4⟩
    · rw [List.getElem?_append_right (by omega), el] at hi
      obtain ⟨d, h3, h4⟩ := b2 (i - s.ne) blk hi
      exact ⟨d, by rw [List.getElem?_append_right (by omega), l1]; exact h3, h4⟩

theorem inside_of {ρ : Ren} {b o : Nat} {cs : Cells} (h : CellsAt ρ W b o cs) (hl : 0 < cs.len) : b < W.heap.size := by
  have key : ∀ off cv, W.cell? ⟨b, off, none⟩ = some cv → b < W.heap.size := fun off cv h => by
    rcases Nat.lt_or_ge b W.heap.size with h' | h'
    · exact h'
    · simp [World.cell?, Array.getElem?_eq_none h'] at h
  cases cs with
  | lit l => obtain ⟨cv, h1, _⟩ := h 0 l[0] (List.getElem?_eq_getElem hl); exact key _ cv h1
  | sym l => exact key _ _ (h 0 l[0] (List.getElem?_eq_getElem hl))
  | rows l => obtain ⟨cv, h1, _⟩ := h 0 l[0] (List.getElem?_eq_getElem hl); exact key _ cv h1
  | arr s l => exact key _ _ (h 0 (s.flatl l)[0] (List.getElem?_eq_getElem hl))
  | arrs s l => obtain ⟨cv, h1, _⟩ := h 0 l[0] (List.getElem?_eq_getElem hl); exact key _ cv h1

theorem sim_open {l : List Sh} {vs : List Value} (h : OpensA P W l vs) : ∃ y : Sh.Ts l, Sh.oks l y ∧ ∃ ρ : Ren, VRs ρ (Sh.args l y 0) vs ∧ Sim ρ (Sh.entss l y) W := by
  obtain ⟨y, hy, c, hc, hf⟩ := h
  have hel := entss_length l y
  obtain ⟨h1, h2⟩ := hf ⟨fun b => c[b]?, W⟩ 0 rfl (fun i d hi => by simpa using hi)
  refine ⟨y, hy, _, h1, ?_⟩
  have live : ∀ b (e : Ent), (Sh.entss l y)[b]? = some e → ∃ blk : Blk, e = .live blk ∧ blk.rw = false ∧ (∀ l, blk.cells ≠ .lit l) := fun b e hb => entss_live l y e (List.mem_of_getElem? hb)
  have at_ : ∀ b blk, Heap.get (Sh.entss l y) b = .live blk → (Sh.entss l y)[b]? = some (.live blk) := fun b blk hb => by
    simp only [Heap.get, List.getD_eq_getElem?_getD] at hb
    cases hq : (Sh.entss l y)[b]? with
    | none => rw [hq] at hb; cases hb
    | some e => rw [hq] at hb; simp at hb; rw [hb]
  have norw : ∀ b blk, Heap.get (Sh.entss l y) b = .live blk → blk.rw = true → False := fun b blk hb hr => by
    obtain ⟨blk', h3, h4, _⟩ := live b _ (at_ b blk hb)
    injection h3 with h3; subst h3; rw [h4] at hr; cases hr
  refine ⟨fun b blk hb => ?_, fun b blk c' hb hc' => ?_, fun b blk c' hb hc' hs => ?_, fun b blk c' hb hc' hr => (norw b blk hb hr).elim, fun b b' blk blk' c' d' hb hb' hne hc' hd' hr => (norw b blk hb hr).elim, fun b hb => ?_, Nat.le_refl _, fun _ _ => rfl, fun b blk c' hb hc' hr => (norw b blk hb hr).elim⟩
  · obtain ⟨d, h3, _⟩ := h2 b blk (at_ b blk hb); exact ⟨d, h3⟩
  · obtain ⟨d, h3, h4⟩ := h2 b blk (at_ b blk hb)
    have : some d = some c' := h3.symm.trans hc'
    injection this with this; subst this; exact h4
  · obtain ⟨d, h3, h4⟩ := h2 b blk (at_ b blk hb)
    have : some d = some c' := h3.symm.trans hc'
    injection this with this; subst this
    refine inside_of h4 ?_
    rcases hs with hs | hs
    · exact hs
    · exact (norw b blk hb hs.1).elim
  · show c[b]? = none
    have hb' : Heap.get (Sh.entss l y) b = .free := hb
    simp only [Heap.get, List.getD_eq_getElem?_getD] at hb'
    cases hq : (Sh.entss l y)[b]? with
    | none =>
      have : (Sh.entss l y).length ≤ b := by simpa using hq
      simp; omega
    | some e =>
      obtain ⟨blk, h3, _⟩ := live b e hq
      rw [hq, h3] at hb'; simp at hb'

theorem trodAll_below (laid : laidOutB P = true) {W' : World} (hb : Below W.heap.size W W') : ∀ (ts : List TypeId) (vs : List Value) (ds : List (DataW H)) (ps : List MemPlace), ts.all (fun t => P.readableRec t && decide (t < P.types.size)) = true →
    DataW.TrodAll enc P W 0 (fun _ => true) true ts vs ds ps → (∀ x ∈ ps, x.block < W.heap.size) → DataW.TrodAll enc P W' 0 (fun b => decide (b < W.heap.size)) true ts vs ds ps
  | [], vs, ds, ps, _, h, _ => by
    obtain ⟨rfl, rfl, rfl⟩ := trodAll_nil h
    exact trodAll_mk0
  | t :: ts, vs, ds, ps, ht, h, hlt => by
    obtain ⟨v, vs', d, ds', p, q, rfl, rfl, rfl, h1, h2⟩ := trodAll_cons h
    simp only [List.all_cons, Bool.and_eq_true, decide_eq_true_eq] at ht
    exact ⟨p, q, Below.trod laid ht.1.1 ht.1.2 h1 hb (fun x hx => hlt x (List.mem_append.2 (.inl hx))), trodAll_below laid hb ts vs' ds' q (by simpa using ht.2) h2 (fun x hx => hlt x (List.mem_append.2 (.inr hx))), rfl⟩

theorem trodAll_lt : ∀ (ts : List TypeId) (vs : List Value) (ds : List (DataW H)) (ps : List MemPlace), DataW.TrodAll enc P W 0 (fun _ => true) true ts vs ds ps → ∀ x ∈ ps, x.block < W.heap.size
  | [], vs, ds, ps, h => by
    obtain ⟨rfl, rfl, rfl⟩ := trodAll_nil h
    simp
  | t :: ts, vs, ds, ps, h => by
    obtain ⟨v, vs', d, ds', p, q, rfl, rfl, rfl, ⟨fuel, h1⟩, h2⟩ := trodAll_cons h
    intro x hx
    rcases List.mem_append.1 hx with hx | hx
    · exact DataW.trod_lt fuel _ _ _ h1 x hx
    · exact trodAll_lt ts vs' ds' q h2 x hx

/-- The row's call. -/
theorem row_calls (laid : laidOutB P = true) {f : FuncId} {fn : Func} {c : Code} (hfn : P.funcs[f]? = some fn) (hb : fn.body = some c) (hname : (fn.name == "runtime.NumGoroutine") = false) {l : List Sh} {ts : List TypeId} (hf : Sh.fitsT P l ts = true) (hr : ts.all (fun t => P.readableRec t && decide (t < P.types.size)) = true)
    (hd : ∀ y : Sh.Ts l, Sh.oks l y → ∃ h', Does P f (Sh.args l y 0) (Sh.entss l y) (.val (.bool true)) h') {args : Array Value} {ds : List (DataW H)} {ps : List MemPlace} {base : Nat} (hval : ∀ (j : Nat) t v, ts[j]? = some t → args[j]? = some v → Value.okWide P W .any base t v)
    (h : DataW.TrodAll enc P W 0 (fun _ => true) true ts args.toList ds ps) :
    Calls P f args W fun e W' => e = .returned (.bool true) ∧ Below W.heap.size W W' ∧ DataW.TrodAll enc P W' 0 (fun b => decide (b < W.heap.size)) true ts args.toList ds ps := by
  obtain ⟨y, hy, ρ, h1, h2⟩ := sim_open (args_open l ts args.toList ds ps hf (fun j t v ht hv => hval j t v ht (by simpa using hv)) h)
  obtain ⟨h', hdo⟩ := hd y hy
  have hinv := hdo ρ W args h2 h1
  unfold Invokes at hinv
  have hcall : (callFunc f args).run P W = .ok (.enter f args) W := by
    simp only [callFunc, program, Sem.run_bind, Sem.run, Result.andThen, hfn]
    simp only [hname, hb, Option.isNone_some, Bool.false_eq_true, if_false]
    rfl
  rw [hcall] at hinv
  refine hinv.mono fun e W' ⟨ρ', cv, he, hv, hI⟩ => ?_
  simp only [VR] at hv
  subst hv
  have hbel : Below W.heap.size W W' := by
    refine ⟨hI.os, hI.tape, hI.output, hI.size, fun k hk => hI.keep k hk ?_⟩
    rintro ⟨b, blk, c', _, hg, hrw, _⟩
    have hg' : Heap.get (Sh.entss l y) b = .live blk := hg
    simp only [Heap.get, List.getD_eq_getElem?_getD] at hg'
    cases hq : (Sh.entss l y)[b]? with
    | none => rw [hq] at hg'; simp at hg'
    | some e =>
      rw [hq] at hg'; simp at hg'; subst hg'
      obtain ⟨blk', h3, h4, _⟩ := entss_live l y _ (List.mem_of_getElem? hq)
      injection h3 with h3; subst h3; rw [h4] at hrw; cases hrw
  exact ⟨he, hbel, trodAll_below laid hbel ts _ _ _ hr h (trodAll_lt ts _ _ _ h)⟩
end
end Go.Ab
