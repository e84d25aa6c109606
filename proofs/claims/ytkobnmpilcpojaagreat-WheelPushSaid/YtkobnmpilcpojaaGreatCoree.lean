/- An engine that names no program: what code does to what memory shows, evaluated over abstract values and an abstract heap, and that it is so. -/
import Derived.Test.YtkobnmpilcpojaaGreatCored
import Derived.Lib.ReflectliteSlice
import Derived.RangeFuncIn
import Derived.RangeFuncRecord
import Derived.RangeFuncNested
import Derived.OpenShut
import Derived.WideShapes
import Derived.ChangeOld
import Derived.Carry
set_option linter.unusedVariables false
set_option linter.unusedSimpArgs false
namespace Go.Ab
def boxes : (cs : List Sh) → Sh.Ts cs → Nat → List Ent
  | [], _, _ => []
  | s :: l, x, n => .live { cells := .lit (s.cells x.1 n), rw := false } :: boxes l x.2 (n + s.ne)
def boxPtrs : List Sh → Nat → List AV
  | [], _ => []
  | _ :: l, N => .ptr N 0 :: boxPtrs l (N + 1)
def argsC (ss : List Sh) (g : FuncId) (cs : List Sh) (x : Sh.Ts ss) : List AV := Sh.args ss x 0 ++ [.fn (.func g) [] (boxPtrs cs (Sh.nes ss + Sh.nes cs))]
def heapC (ss cs : List Sh) (x : Sh.Ts ss) (xs : Sh.Ts cs) : Heap := Sh.entss ss x ++ (Sh.entss cs xs ++ boxes cs xs (Sh.nes ss))
theorem boxes_length : ∀ (cs : List Sh) (xs : Sh.Ts cs) (n : Nat), (boxes cs xs n).length = cs.length
  | [], _, _ => rfl
  | s :: l, xs, n => by simp [boxes, boxes_length l]
theorem boxes_ro : ∀ (cs : List Sh) (xs : Sh.Ts cs) (n : Nat) (e : Ent), e ∈ boxes cs xs n → ∃ blk : Blk, e = .live blk ∧ blk.rw = false
  | [], _, _, e, h => by simp [boxes] at h
  | s :: l, xs, n, e, h => by
    simp only [boxes, List.mem_cons] at h
    rcases h with h | h
    · subst h; exact ⟨_, rfl, rfl⟩
    · exact boxes_ro l xs.2 _ e h
theorem heapC_ro {ss cs : List Sh} {x : Sh.Ts ss} {xs : Sh.Ts cs} (e : Ent) (h : e ∈ heapC ss cs x xs) : ∃ blk : Blk, e = .live blk ∧ blk.rw = false := by
  simp only [heapC, List.mem_append] at h
  rcases h with h | h | h
  · obtain ⟨blk, h1, h2, _⟩ := entss_live ss x e h; exact ⟨blk, h1, h2⟩
  · obtain ⟨blk, h1, h2, _⟩ := entss_live cs xs e h; exact ⟨blk, h1, h2⟩
  · exact boxes_ro cs xs _ e h
theorem heap_mem {h : Heap} {b : Nat} {blk : Blk} (hb : h.get b = .live blk) : h[b]? = some (.live blk) := by
  simp only [Heap.get, List.getD_eq_getElem?_getD] at hb
  cases hq : h[b]? with
  | none => rw [hq] at hb; cases hb
  | some e => rw [hq] at hb; simp at hb; rw [hb]
theorem heapC_norw {ss cs : List Sh} {x : Sh.Ts ss} {xs : Sh.Ts cs} {b : Nat} {blk : Blk} (hb : Heap.get (heapC ss cs x xs) b = .live blk) : blk.rw = false := by
  obtain ⟨blk', h1, h2⟩ := heapC_ro (ss := ss) (cs := cs) (x := x) (xs := xs) _ (List.mem_of_getElem? (heap_mem hb))
  injection h1 with h1; rw [h1]; exact h2
theorem heapC_length (ss cs : List Sh) (x : Sh.Ts ss) (xs : Sh.Ts cs) : (heapC ss cs x xs).length = Sh.nes ss + Sh.nes cs + cs.length := by
  simp [heapC, entss_length, boxes_length]; omega
def ReadsC (P : Program) (f : FuncId) (ss : List Sh) (g : FuncId) (cs rs : List Sh) (law : Sh.Ts ss → Sh.Ts cs → Option (Sh.Ts rs)) : Prop :=
  ∀ x xs y, law x xs = some y → Does P f (argsC ss g cs x) (heapC ss cs x xs) (outV rs y 0) (heapC ss cs x xs)
def codeLawC (P : Program) (env : Env P) (fuel : Nat) (L : Loops P env.Y) (fn : Func) (c : Code) (ss : List Sh) (g : FuncId) (cs rs : List Sh) (x : Sh.Ts ss) (xs : Sh.Ts cs) : Option (Sh.Ts rs) :=
  codeK P env (Sh.nes ss + Sh.nes cs + cs.length) fuel L [] (.code c) (argsC ss g cs x ++ List.replicate (fn.ntmps - (ss.length + 1)) (.val undef)) (heapC ss cs x xs) fun e t h => outK (P := P) fn rs e t h
theorem ReadsC.of_code {P : Program} (hm : P.follows .mixedOrders = true) {f : FuncId} {fn : Func} {c : Code} (hf : P.funcs[f]? = some fn) (hb : fn.body = some c) (hname : (fn.name == "runtime.NumGoroutine") = false)
    (env : Env P) (fuel : Nat) {L : Loops P env.Y} (hL : L.fit c) {ss : List Sh} {g : FuncId} {cs rs : List Sh} (hrs : Sh.nes rs = 0) (hy : ∀ Γ, env.Y Γ := by exact fun _ => True.intro) : ReadsC P f ss g cs rs (codeLawC P env fuel L fn c ss g cs rs) := by
  intro x xs y hxy ρ w cargs hsim hargs
  unfold codeLawC at hxy
  have hlen0 := heapC_length ss cs x xs
  obtain ⟨e, t1, h1, hk, hn1, hg⟩ := codeK_ok hm fuel L [] (.code c) _ _ _ c hL (.inr rfl) (by omega) hxy
  unfold outK at hk
  split at hk
  case h_2 => cases hk
  rename_i hex
  split at hk
  case h_2 => cases hk
  rename_i vs hvs
  split at hk
  case h_2 => cases hk
  rename_i y' bs cc hview
  obtain ⟨hcc, hk⟩ := ifK_some hk
  injection hk with hk; subst hk
  unfold Invokes
  have hcall : (callFunc f cargs).run P w = .ok (.enter f cargs) w := by
    simp only [callFunc, program, Sem.run_bind, Sem.run, Result.andThen, hf]
    simp only [hname, hb, Option.isNone_some, Bool.false_eq_true, if_false]
    rfl
  rw [hcall]
  simp only
  have hlen := hargs.length
  simp only [argsC, List.length_append, args_length, List.length_singleton] at hlen
  have hro : ∀ b blk, Heap.get (heapC ss cs x xs) b = .live blk → blk.rw = false := fun b blk hb => heapC_norw hb
  have hI : Inv ⟨(heapC ss cs x xs).length, ρ, heapC ss cs x xs, w⟩ ρ (heapC ss cs x xs) w :=
    ⟨hsim, fun _ _ => rfl, rfl, rfl, rfl, rfl, Nat.le_refl _, fun _ _ _ => rfl, fun b blk d hb hd hrw hs => by rw [hro b blk hb] at hrw; cases hrw⟩
  have hV : VRs ρ (argsC ss g cs x ++ List.replicate (fn.ntmps - (ss.length + 1)) (.val undef)) ({ tmps := cargs ++ Array.replicate (fn.ntmps - cargs.size) undef, defers := [] } : Act).tmps.toList := by
    simp only [Array.toList_append, Array.toList_replicate]
    refine hargs.append ?_
    rw [hlen]
    simpa using VRs.replicate (ρ := ρ) (a := .val undef) (v := undef) (by simp [VR]) (fn.ntmps - cargs.size)
  refine calls_of_runs hf hb hg hex hlen0 (hy _) hI hV fun ρ2 w2 a2 g2 g3 => ?_
  obtain ⟨us, cv, k1, k2, k3⟩ := run_results_list (P := P) g2 g3 hvs
  have hva := viewArgs_ok (Q := fun _ => True) g2.sim rs vs us k2 y' bs cc hview (fun b _ => rfl) (fun _ _ => trivial) hcc
  have hout : VR ρ (outV rs y' 0) cv := by
    obtain ⟨c0, hc0, hvv⟩ := hva
    have : c0 = [] := List.length_eq_zero_iff.1 (by rw [hc0, hrs])
    subst this
    refine k3 ρ _ ?_
    have := (hvv ⟨ρ.f, ρ2.base⟩ 0 rfl (fun i d hi => by simp at hi)).1
    exact args_shift rs y' 0 _ (fun k hk => by omega) us this
  have hset := settle hsim hro g2
  exact ⟨cv, k1, ρ, cv, rfl, hout, hset⟩
theorem ReadsC.to {P : Program} {f : FuncId} {ss : List Sh} {g : FuncId} {cs rs : List Sh} {law law' : Sh.Ts ss → Sh.Ts cs → Option (Sh.Ts rs)} (h : ReadsC P f ss g cs rs law) (he : ∀ x xs, law x xs = law' x xs) : ReadsC P f ss g cs rs law' := fun x xs y hxy => h x xs y (by rw [he]; exact hxy)
def viewBoxes (H : Nat → Ent) : (cs : List Sh) → List AV → Option (Sh.Ts cs × List Nat × Bool)
  | [], [] => some ((), [], true)
  | s :: l, .ptr b 0 :: as => (match H b with
    | .live blk => (match blk.cells with
      | .lit cells => (match viewC H s cells with
        | some (y, bs, c, []) => (match viewBoxes H l as with
          | some (z, bs', c') => some ((y, z), b :: (bs ++ bs'), c && c')
          | none => none)
        | _ => none)
      | _ => none)
    | _ => none)
  | _, _ => none
def BoxViews (w B : World) (cs : List Sh) (xs : Sh.Ts cs) (vs : List Value) : Prop :=
  ∃ (c d : List (Nat × Nat × Nat)), c.length = Sh.nes cs ∧ d.length = cs.length ∧ ∀ (ρ : Ren) (next N : Nat), ρ.base = B → (∀ (i : Nat) (e : Nat × Nat × Nat), c[i]? = some e → ρ (next + i) = some e) → (∀ (i : Nat) (e : Nat × Nat × Nat), d[i]? = some e → ρ (N + i) = some e) →
    VRs ρ (boxPtrs cs N) vs ∧ (∀ (i : Nat) (blk : Blk), (Sh.entss cs xs)[i]? = some (.live blk) → ∃ e : Nat × Nat × Nat, c[i]? = some e ∧ CellsAt ρ w e.1 e.2.1 blk.cells) ∧ (∀ (i : Nat) (blk : Blk), (boxes cs xs next)[i]? = some (.live blk) → ∃ e : Nat × Nat × Nat, d[i]? = some e ∧ CellsAt ρ w e.1 e.2.1 blk.cells)
theorem viewBoxes_ok {ρ0 : Ren} {h : Heap} {w : World} {H : Nat → Ent} (hs : Sim ρ0 h w) : ∀ (cs : List Sh) (as : List AV) (vs : List Value), VRs ρ0 as vs → ∀ (xs : Sh.Ts cs) (bs : List Nat) (c : Bool), viewBoxes H cs as = some (xs, bs, c) → (∀ b ∈ bs, h.get b = H b) → c = true → BoxViews w ρ0.base cs xs vs
  | [], [], [], _, xs, bs, c, _, _, _ => ⟨[], [], rfl, rfl, fun ρ next N _ _ _ => ⟨by simp [boxPtrs, VRs], fun i blk h => by simp [Sh.entss] at h, fun i blk h => by simp [boxes] at h⟩⟩
  | [], [], _ :: _, hv, _, _, _, _, _, _ => by simp [VRs] at hv
  | [], _ :: _, _, _, _, _, _, h, _, _ => by simp [viewBoxes] at h
  | _ :: _, [], _, _, _, _, _, h, _, _ => by simp [viewBoxes] at h
  | _ :: _, _ :: _, [], hv, _, _, _, _, _, _ => by simp [VRs] at hv
  | s :: l, a :: as, v :: vs, hv, xs, bs, c, hvw, hH, hc => by
    have ha : ∃ b, a = .ptr b 0 := by
      cases a with
      | ptr b o => cases o with
        | zero => exact ⟨b, rfl⟩
        | succ => simp [viewBoxes] at hvw
      | _ => simp [viewBoxes] at hvw
    obtain ⟨b, rfl⟩ := ha
    simp only [VRs] at hv
    simp only [viewBoxes] at hvw
    · skip
      split at hvw
      case h_2 => cases hvw
      rename_i blk hblk
      split at hvw
      case h_2 => cases hvw
      rename_i cells hcells
      split at hvw
      case h_2 => cases hvw
      rename_i y b0 c0 hvc
      split at hvw
      case h_2 => cases hvw
      rename_i z b1 c1 h1
      injection hvw with hvw; injection hvw with e1 e2; injection e2 with e2 e3
      subst e1; subst e2; subst e3
      simp only [Bool.and_eq_true] at hc
      have hb : h.get b = .live blk := by rw [hH b (List.mem_cons_self ..)]; exact hblk
      have hp := hv.1
      simp only [VR] at hp
      obtain ⟨cb, co, cc, hρ, rfl⟩ := hp
      have hca := hs.cells b blk _ hb hρ
      rw [hcells] at hca
      obtain ⟨us, k1, k2⟩ := CellsAt.list cells _ hca
      obtain ⟨v1, v2, g1, g2, ⟨d1, l1, f1⟩⟩ := viewC_ok (Q := fun _ => True) hs s cells us k1 y b0 c0 [] hvc (fun b' hb' => hH b' (List.mem_cons_of_mem _ (List.mem_append.2 (.inl hb')))) (fun _ _ => trivial) hc.1
      have : v2 = [] := by
        cases v2 with
        | nil => rfl
        | cons => simp [VRs] at g2
      subst this
      rw [List.append_nil] at g1
      subst g1
      obtain ⟨d2, q2, l2, m2, f2⟩ := viewBoxes_ok hs l as vs hv.2 z b1 c1 h1 (fun b' hb' => hH b' (List.mem_cons_of_mem _ (List.mem_append.2 (.inr hb')))) hc.2
      refine ⟨d1 ++ d2, (cb, co, cc) :: q2, by simp [Sh.nes, l1, l2], by simp [m2], fun ρ next N hbase hρ1 hρ2 => ?_⟩
      obtain ⟨a1, a2⟩ := f1 ρ next hbase fun i d hi => hρ1 i d (by rw [List.getElem?_append_left]; exact hi; exact (List.getElem?_eq_some_iff.1 hi).1)
      obtain ⟨b1', b2, b3⟩ := f2 ρ (next + s.ne) (N + 1) hbase (fun i d hi => by
        have := hρ1 (s.ne + i) d (by rw [List.getElem?_append_right (by omega), l1, Nat.add_sub_cancel_left]; exact hi)
        rw [Nat.add_assoc]; exact this) (fun i d hi => by
        have := hρ2 (i + 1) d (by simpa using hi)
        rw [show N + 1 + i = N + (i + 1) by omega]; exact this)
      refine ⟨?_, fun i blk' hi => ?_, fun i blk' hi => ?_⟩
      · simp only [boxPtrs, VRs, VR]
        exact ⟨⟨cb, co, cc, by simpa using hρ2 0 _ rfl, rfl⟩, b1'⟩
      · simp only [Sh.entss] at hi
        have el := ents_length s y
        by_cases hil : i < s.ne
        · rw [List.getElem?_append_left (by omega)] at hi
          obtain ⟨d, h3, h4, _⟩ := a2 i blk' hi
          exact ⟨d, by rw [List.getElem?_append_left (by omega)]; exact h3, h4⟩
        · rw [List.getElem?_append_right (by omega), el] at hi
          obtain ⟨d, h3, h4⟩ := b2 (i - s.ne) blk' hi
          exact ⟨d, by rw [List.getElem?_append_right (by omega), l1]; exact h3, h4⟩
      · cases i with
        | zero =>
          simp only [boxes] at hi
          simp at hi; subst hi
          refine ⟨(cb, co, cc), rfl, ?_⟩
          have : ∀ (as : List AV) (vs : List Value), VRs ρ as vs → (∀ (i : Nat) (v : Value), vs[i]? = some v → w.cell? ⟨cb, co + i, none⟩ = some v) → CellsAt ρ w cb co (.lit as) := fun as vs hr hu => CRel.at_ (c := .lit as) hr hu
          exact this _ _ a1 k2
        | succ i =>
          simp only [boxes] at hi
          obtain ⟨d, h3, h4⟩ := b3 i blk' (by simpa using hi)
          exact ⟨d, by simpa using h3, h4⟩
theorem sim_ro {ρ : Ren} {h : Heap} {w : World} (hB : ρ.base.heap.size ≤ w.heap.size) (hO : ∀ i, i < ρ.base.heap.size → w.heap[i]? = ρ.base.heap[i]?) (hro : ∀ b blk, h.get b = .live blk → blk.rw = false)
    (hc : ∀ b blk, h.get b = .live blk → ∃ d, ρ b = some d ∧ CellsAt ρ w d.1 d.2.1 blk.cells) (hd : ∀ b, h.get b = .free → ρ b = none) : Sim ρ h w := by
  have norw : ∀ b blk, h.get b = .live blk → blk.rw = true → False := fun b blk hb hr => by rw [hro b blk hb] at hr; cases hr
  refine ⟨fun b blk hb => ?_, fun b blk c hb hc' => ?_, fun b blk c hb hc' hs => ?_, fun b blk c hb hc' hr => (norw b blk hb hr).elim, fun b b' blk blk' c c' hb hb' hne hc' hd' hr => (norw b blk hb hr).elim, hd, hB, hO, fun b blk c hb hc' hr => (norw b blk hb hr).elim⟩
  · obtain ⟨d, h1, _⟩ := hc b blk hb; exact ⟨d, h1⟩
  · obtain ⟨d, h1, h2⟩ := hc b blk hb
    rw [h1] at hc'; injection hc' with hc'; subst hc'; exact h2
  · obtain ⟨d, h1, h2⟩ := hc b blk hb
    rw [h1] at hc'; injection hc' with hc'; subst hc'
    refine inside_of18 h2 ?_
    rcases hs with hs | hs
    · exact hs
    · exact (norw b blk hb hs.1).elim
def readsCS {P : Program} {β : Type} (ss : List Sh) (g : FuncId) (cs rs : List Sh) (law : Sh.Ts ss → Sh.Ts cs → Option (Sh.Ts rs)) (H : Nat → Ent) (new : Nat) (args : List AV) (K : Eff → Option β) : Option β :=
  match args.drop ss.length with
  | [.fn (.func g') [] caps] => if g' = g then (match viewArgs H ss (args.take ss.length) with
    | some (x, bs, c) => (match viewBoxes H cs caps with
      | some (xs, bs', c') => ifK (c && c') ((law x xs).bind fun y => K { rb := bs ++ bs', val := outV rs y 0 })
      | none => none)
    | none => none) else none
  | _ => none
def ReadsC.summ {P : Program} {f : FuncId} {ss : List Sh} {g : FuncId} {cs rs : List Sh} {law : Sh.Ts ss → Sh.Ts cs → Option (Sh.Ts rs)} (hr : ReadsC P f ss g cs rs law) (hrs : Sh.nes rs = 0) : Summ P where
  f := f
  S := fun H new args K => readsCS (P := P) ss g cs rs law H new args K
  ok := by
    intro β H new args K r hs
    unfold readsCS at hs
    split at hs
    case h_2 => cases hs
    rename_i g' caps hdrop
    split at hs
    case isFalse => cases hs
    rename_i hg
    subst hg
    split at hs
    case h_2 => cases hs
    rename_i x bs c hv
    split at hs
    case h_2 => cases hs
    rename_i xs bs' c' hvb
    obtain ⟨hc, hs⟩ := ifK_some hs
    simp only [Bool.and_eq_true] at hc
    rw [Option.bind_eq_some_iff] at hs
    obtain ⟨y, hy, hs⟩ := hs
    refine ⟨_, hs, fun Γ ρ h w cargs hI hargs hH hn hfree => ?_⟩
    have hH1 : ∀ b ∈ bs, h.get b = H b := fun b hb => hH b (List.mem_append.2 (.inl hb))
    have hH2 : ∀ b ∈ bs', h.get b = H b := fun b hb => hH b (List.mem_append.2 (.inr hb))
    have hsplit : args = args.take ss.length ++ [.fn (.func g') [] caps] := by rw [← hdrop, List.take_append_drop]
    rw [hsplit] at hargs
    obtain ⟨v1, v2, hv12, hr1, hr2⟩ := VRs.split _ _ _ hargs
    cases v2 with
    | nil => simp [VRs] at hr2
    | cons fv rest =>
      simp only [VRs] at hr2
      have hrest : rest = [] := by
        cases rest with
        | nil => rfl
        | cons => simp [VRs] at hr2
      subst hrest
      have hfv := hr2.1
      simp only [VR] at hfv
      obtain ⟨fs', cs', rfl, hfs, hcs⟩ := hfv
      obtain ⟨c1, n1, f1⟩ := viewArgs_ok (Q := fun _ => True) hI.sim ss _ _ hr1 x bs c hv hH1 (fun _ _ => trivial) hc.1
      obtain ⟨c2, d2, n2, m2, f2⟩ := viewBoxes_ok hI.sim cs caps _ hcs xs bs' c' hvb hH2 hc.2
      let ρg : Ren := ⟨fun b => (c1 ++ (c2 ++ d2))[b]?, ρ.base⟩
      obtain ⟨a1, a2⟩ := f1 ρg 0 rfl fun i d hi => by
        show (c1 ++ (c2 ++ d2))[0 + i]? = _
        rw [Nat.zero_add, List.getElem?_append_left (List.getElem?_eq_some_iff.1 hi).1]; exact hi
      obtain ⟨b1, b2, b3⟩ := f2 ρg (Sh.nes ss) (Sh.nes ss + Sh.nes cs) rfl (fun i d hi => by
        show (c1 ++ (c2 ++ d2))[Sh.nes ss + i]? = _
        rw [List.getElem?_append_right (by omega), n1, Nat.add_sub_cancel_left, List.getElem?_append_left (List.getElem?_eq_some_iff.1 hi).1]; exact hi) (fun i d hi => by
        show (c1 ++ (c2 ++ d2))[Sh.nes ss + Sh.nes cs + i]? = _
        rw [List.getElem?_append_right (by omega), n1, List.getElem?_append_right (by omega), n2, show Sh.nes ss + Sh.nes cs + i - Sh.nes ss - Sh.nes cs = i by omega]; exact hi)
      have e1 := entss_length ss x
      have e2 := entss_length cs xs
      have e3 := boxes_length cs xs (Sh.nes ss)
      have hsim : Sim ρg (heapC ss cs x xs) w := by
        refine sim_ro hI.sim.baseLe hI.sim.old (fun b blk hb => heapC_norw hb) (fun b blk hb => ?_) (fun b hb => ?_)
        · have hb := heap_mem hb
          unfold heapC at hb
          by_cases h1 : b < Sh.nes ss
          · rw [List.getElem?_append_left (by omega)] at hb
            obtain ⟨d, h3, h4, _⟩ := a2 b blk hb
            exact ⟨d, by show (c1 ++ (c2 ++ d2))[b]? = _; rw [List.getElem?_append_left (by omega)]; exact h3, h4⟩
          · rw [List.getElem?_append_right (by omega)] at hb
            by_cases h2 : b - Sh.nes ss < Sh.nes cs
            · rw [List.getElem?_append_left (by omega)] at hb
              obtain ⟨d, h3, h4⟩ := b2 _ blk hb
              refine ⟨d, ?_, h4⟩
              show (c1 ++ (c2 ++ d2))[b]? = _
              rw [List.getElem?_append_right (by omega), List.getElem?_append_left (by omega), n1, ← e1]; exact h3
            · rw [List.getElem?_append_right (by omega)] at hb
              obtain ⟨d, h3, h4⟩ := b3 _ blk hb
              refine ⟨d, ?_, h4⟩
              show (c1 ++ (c2 ++ d2))[b]? = _
              rw [List.getElem?_append_right (by omega), List.getElem?_append_right (by omega), n1, n2, ← e1, ← e2]; exact h3
        · show (c1 ++ (c2 ++ d2))[b]? = none
          refine List.getElem?_eq_none ?_
          rcases Nat.lt_or_ge b (heapC ss cs x xs).length with h9 | h9
          · exfalso
            obtain ⟨blk, k1, _⟩ := heapC_ro (ss := ss) (cs := cs) (x := x) (xs := xs) (heapC ss cs x xs)[b] (List.getElem_mem h9)
            simp only [Heap.get, List.getD_eq_getElem?_getD, List.getElem?_eq_getElem h9, Option.getD_some, k1] at hb
            cases hb
          · rw [heapC_length] at h9
            simp; omega
      have hargsg : VRs ρg (argsC ss g' cs x) cargs.toList := by
        rw [hv12]
        refine a1.append ?_
        simp only [VRs, VR]
        exact ⟨⟨fs', cs', rfl, hfs.nil_any, b1⟩, trivial⟩
      refine (hr x xs y hy ρg w cargs hsim hargsg).mono fun e w' ⟨ρg', cv, he, hvv, hJ⟩ => ?_
      obtain ⟨ρ', g1, g2, g3⟩ := after_pure hI (hg := heapC ss cs x xs) (fun b blk hb => heapC_norw hb) (es := []) rfl (by rw [List.append_nil]; exact hJ) hn (fun z h1 h2 => by simp at h2; omega)
      exact ⟨ρ', cv, he, g1, outV_shift rs y 0 0 (fun k hk => by omega) hvv, g3⟩
def Summ.choose {P : Program} (test : List AV → Bool) (a b : Summ P) (h : b.f = a.f) : Summ P where
  f := a.f
  S := fun H new args K => match test args with
    | true => a.S H new args K
    | false => b.S H new args K
  ok := by
    intro β H new args K r hs
    split at hs
    · exact a.ok H new args K r hs
    · have := b.ok H new args K r hs
      rw [h] at this; exact this
def lastFn (g : FuncId) (args : List AV) : Bool := match args.getLast? with
  | some (.fn (.func g') _ _) => decide (g' = g)
  | _ => false
end Go.Ab
namespace Go.Ab
def fEnt (e : Sh) (l : List e.T) : Ent := .live { cells := .arr e l, rw := true, grow := some e.w }
def ReadsF (P : Program) (f : FuncId) (ss : List Sh) (e : Sh) (law : Sh.Ts ss → Option (List e.T)) : Prop :=
  ∀ x l, law x = some l → Does P f (Sh.args ss x 0) (Sh.entss ss x) (.slc (Sh.nes ss) 0 l.length .unk) (Sh.entss ss x ++ [fEnt e l])
def outF {P : Program} (fn : Func) (n0 : Nat) (e : Sh) (ex : Exit) (t : List AV) (h : Heap) : Option (List e.T) :=
  match okExit ex with
  | true => (match resA P t h fn.results.toList with
    | some [.slc b 0 n .unk] => if n0 ≤ b then (match h.get b with
      | .live { cells := .arr e' l, rw := true, grow := some sz } => (match Sh.same e' e with
        | some hh => if sz = e.w then ifK (decide (n = l.length)) (some (hh.down ▸ l)) else none
        | none => none)
      | _ => none) else none
    | some [.val (.slice none 0 0)] => some []
    | _ => none)
  | false => none
def codeLawF (P : Program) (env : Env P) (fuel : Nat) (L : Loops P env.Y) (fn : Func) (c : Code) (ss : List Sh) (e : Sh) (x : Sh.Ts ss) : Option (List e.T) :=
  codeK P env (Sh.nes ss) fuel L [] (.code c) (Sh.args ss x 0 ++ List.replicate (fn.ntmps - ss.length) (.val undef)) (Sh.entss ss x) fun ex t h => outF (P := P) fn (Sh.nes ss) e ex t h
theorem settleF {ρ ρ2 : Ren} {es : List Ent} {h1 : Heap} {w w2 : World} (hS : Sim ρ es w) (hro : ∀ b blk, Heap.get es b = .live blk → blk.rw = false) (hI : Inv ⟨es.length, ρ, es, w⟩ ρ2 h1 w2) {b : Nat} {blk : Blk} (hb : h1.get b = .live blk) (hrw : blk.rw = true) (hcells : ∀ l, blk.cells = .lit l → ∃ vs : List Value, l = vs.map .val) (hrows : ∀ s l, blk.cells ≠ .arrs s l) (hrows2 : ∀ l, blk.cells ≠ .rows l) {c : Nat × Nat × Nat} (hc : ρ2 b = some c) :
    Inv ⟨es.length, ρ, es, w⟩ (ρ.put es.length c) (es ++ [.live blk]) w2 := by
  have hset := settle hS hro hI
  have hfree : ρ es.length = none := hS.dom _ (by simp [Heap.get, List.getD_eq_getElem?_getD])
  have hle := Ren.le_put (c := c) hfree
  have hpn : (ρ.put es.length c) es.length = some c := by simp [Ren.put]
  have hpo : ∀ x, x ≠ es.length → (ρ.put es.length c) x = ρ x := fun x hx => by simp [Ren.put, hx]
  have ent : ∀ x xb, Heap.get (es ++ [.live blk]) x = .live xb → (x < es.length ∧ Heap.get es x = .live xb ∧ xb.rw = false) ∨ (x = es.length ∧ xb = blk) := fun x xb hx => by
    rw [get_snoc] at hx
    split at hx
    · rename_i hl; exact .inl ⟨hl, hx, hro x xb hx⟩
    · split at hx
      · rename_i h2; injection hx with hx; exact .inr ⟨h2, hx.symm⟩
      · cases hx
  have one : ∀ d, (ρ.put es.length c) es.length = some d → d = c := fun d hd => by rw [hpn] at hd; injection hd with hd; exact hd.symm
  have cellsN : CellsAt (ρ.put es.length c) w2 c.1 c.2.1 blk.cells := by
    have := hI.sim.cells b blk c hb hc
    cases hk : blk.cells with
    | lit l =>
      rw [hk] at this
      obtain ⟨vs, rfl⟩ := hcells l hk
      intro i v hi
      obtain ⟨cv, q1, q2⟩ := this i v hi
      refine ⟨cv, q1, ?_⟩
      simp only [List.getElem?_map, Option.map_eq_some_iff] at hi
      obtain ⟨u, _, rfl⟩ := hi
      simpa [VR] using q2
    | sym l => rw [hk] at this; exact this
    | rows l => exact absurd hk (hrows2 l)
    | arr s l => rw [hk] at this; exact this
    | arrs s l => exact absurd hk (hrows s l)
  have notown : ∀ i, ¬ Ctx.owned ⟨es.length, ρ, es, w⟩ i := by
    rintro i ⟨b', blk', c', _, hb', hr', _⟩
    rw [hro b' blk' hb'] at hr'; cases hr'
  have freshN : blk.solid c → w.heap.size ≤ c.1 := fun hs => by
    rcases hI.fresh b blk c hb hc hrw hs with h | h
    · exact h
    · exact absurd h (notown _)
  refine ⟨⟨?_, ?_, ?_, ?_, ?_, ?_, hset.sim.baseLe, hset.sim.old, ?_⟩, ?_, rfl, hI.os, hI.tape, hI.output, hI.size, hI.keep, ?_⟩
  · intro x xb hx
    rcases ent x xb hx with ⟨h1, h2, h3⟩ | ⟨h1, h2⟩
    · rw [hpo x (by omega)]; exact hset.sim.some_ x xb h2
    · subst h1; exact ⟨_, hpn⟩
  · intro x xb d hx hd
    rcases ent x xb hx with ⟨h1, h2, h3⟩ | ⟨h1, h2⟩
    · rw [hpo x (by omega)] at hd; exact (hset.sim.cells x xb d h2 hd).mono hle
    · subst h1; subst h2; rw [one d hd]; exact cellsN
  · intro x xb d hx hd hs
    rcases ent x xb hx with ⟨h1, h2, h3⟩ | ⟨h1, h2⟩
    · rw [hpo x (by omega)] at hd; exact hset.sim.inside x xb d h2 hd hs
    · subst h1; subst h2; rw [one d hd] at hs ⊢; exact hI.sim.inside b xb c hb hc hs
  · intro x xb d hx hd hr hs
    rcases ent x xb hx with ⟨h1, h2, h3⟩ | ⟨h1, h2⟩
    · rw [h3] at hr; cases hr
    · subst h1; subst h2; rw [one d hd] at hs ⊢; exact hI.sim.own b xb c hb hc hr hs
  · intro x y xb yb d e hx hy hne hd he hr hs hs'
    rcases ent x xb hx with ⟨h1, h2, h3⟩ | ⟨h1, h2⟩
    · rw [h3] at hr; cases hr
    · subst h1; subst h2; rw [one d hd] at hs ⊢
      rcases ent y yb hy with ⟨k1, k2, k3⟩ | ⟨k1, k2⟩
      · rw [hpo y (by omega)] at he
        have g1 := hS.inside y yb e k2 he hs'
        have g2 := freshN hs
        omega
      · exact absurd k1.symm hne
  · intro x hx
    rw [get_snoc] at hx
    split at hx
    · rename_i hl; rw [hpo x (by omega)]; exact hS.dom x hx
    · rename_i hl
      split at hx
      · cases hx
      · rename_i h2
        rw [hpo x h2]; exact hS.dom x (by simp [Heap.get, List.getD_eq_getElem?_getD, List.getElem?_eq_none (show es.length ≤ x by omega)])
  · intro x xb d hx hd hr hs
    rcases ent x xb hx with ⟨h1, h2, h3⟩ | ⟨h1, h2⟩
    · rw [h3] at hr; cases hr
    · subst h1; subst h2; rw [one d hd] at hs ⊢
      have := freshN hs
      have := hS.baseLe
      show ρ.base.heap.size ≤ _
      omega
  · intro x hx
    have hx : x < es.length := hx
    exact hpo x (by omega)
  · intro x xb d hx hd hr hs
    rcases ent x xb hx with ⟨h1, h2, h3⟩ | ⟨h1, h2⟩
    · rw [h3] at hr; cases hr
    · subst h1; subst h2; rw [one d hd] at hs ⊢; exact .inl (freshN hs)
theorem ReadsF.core {P : Program} (hm : P.follows .mixedOrders = true) {f : FuncId} {fn : Func} {c : Code} (hf : P.funcs[f]? = some fn) (hb : fn.body = some c) (hname : (fn.name == "runtime.NumGoroutine") = false)
    (env : Env P) (fuel : Nat) {L : Loops P env.Y} (hL : L.fit c) {ss : List Sh} {e : Sh} (hy : ∀ Γ, env.Y Γ) (A : List AV) (hA : A.length = ss.length) (x : Sh.Ts ss) (l : List e.T)
    (hxy : codeK P env (Sh.nes ss) fuel L [] (.code c) (A ++ List.replicate (fn.ntmps - ss.length) (.val undef)) (Sh.entss ss x) (fun ex t h => outF (P := P) fn (Sh.nes ss) e ex t h) = some l)
    (ρ : Ren) (w : World) (cargs : Array Value) (hsim : Sim ρ (Sh.entss ss x) w) (hargs : VRs ρ A cargs.toList) :
    Invokes P f cargs w fun en w' => ∃ ρ' cv, en = .returned cv ∧ VR ρ' (.slc (Sh.nes ss) 0 l.length .unk) cv ∧ Inv ⟨(Sh.entss ss x).length, ρ, Sh.entss ss x, w⟩ ρ' (Sh.entss ss x ++ [fEnt e l]) w' := by
  have hlen0 := entss_length ss x
  obtain ⟨ex, t1, h1, hk, hn1, hg⟩ := codeK_ok hm fuel L [] (.code c) _ _ _ c hL (.inr rfl) (by omega) hxy
  unfold outF at hk
  split at hk
  case h_2 => cases hk
  rename_i hex
  have hcall : (callFunc f cargs).run P w = .ok (.enter f cargs) w := by
    simp only [callFunc, program, Sem.run_bind, Sem.run, Result.andThen, hf]
    simp only [hname, hb, Option.isNone_some, Bool.false_eq_true, if_false]
    rfl
  have hlen := hargs.length
  rw [hA] at hlen
  have hro : ∀ b blk, Heap.get (Sh.entss ss x) b = .live blk → blk.rw = false := fun b blk hb => entss_norw hb
  have hI : Inv ⟨(Sh.entss ss x).length, ρ, Sh.entss ss x, w⟩ ρ (Sh.entss ss x) w :=
    ⟨hsim, fun _ _ => rfl, rfl, rfl, rfl, rfl, Nat.le_refl _, fun _ _ _ => rfl, fun b blk d hb hd hrw hs => by rw [hro b blk hb] at hrw; cases hrw⟩
  have hV : VRs ρ (A ++ List.replicate (fn.ntmps - ss.length) (.val undef)) ({ tmps := cargs ++ Array.replicate (fn.ntmps - cargs.size) undef, defers := [] } : Act).tmps.toList := by
    simp only [Array.toList_append, Array.toList_replicate]
    refine hargs.append ?_
    rw [hlen]
    simpa using VRs.replicate (ρ := ρ) (a := .val undef) (v := undef) (by simp [VR]) (fn.ntmps - cargs.size)
  have fin : ∀ vs, resA P t1 h1 fn.results.toList = some vs → (∀ ρ2 w2 cv, Inv ⟨(Sh.entss ss x).length, ρ, Sh.entss ss x, w⟩ ρ2 h1 w2 → VR ρ2 (resV vs) cv → ∃ ρ', VR ρ' (.slc (Sh.nes ss) 0 l.length .unk) cv ∧ Inv ⟨(Sh.entss ss x).length, ρ, Sh.entss ss x, w⟩ ρ' (Sh.entss ss x ++ [fEnt e l]) w2) →
      Invokes P f cargs w fun en w' => ∃ ρ' cv, en = .returned cv ∧ VR ρ' (.slc (Sh.nes ss) 0 l.length .unk) cv ∧ Inv ⟨(Sh.entss ss x).length, ρ, Sh.entss ss x, w⟩ ρ' (Sh.entss ss x ++ [fEnt e l]) w' := by
    intro vs hvs hend
    unfold Invokes
    rw [hcall]
    simp only
    refine calls_of_runs hf hb hg hex hlen0 (hy _) hI hV fun ρ2 w2 a2 g2 g3 => ?_
    obtain ⟨us, cv, k1, k2, k3⟩ := run_results_list (P := P) g2 g3 hvs
    obtain ⟨ρ', h7, h8⟩ := hend ρ2 w2 cv g2 (k3 ρ2 vs k2)
    exact ⟨cv, k1, ρ', cv, rfl, h7, h8⟩
  split at hk
  · rename_i b n hvs
    split at hk
    case isFalse => cases hk
    rename_i hbn
    split at hk
    case h_2 => cases hk
    rename_i e' l' sz hget
    split at hk
    case h_2 => cases hk
    rename_i hh _
    obtain ⟨hh⟩ := hh
    subst hh
    split at hk
    case isFalse => cases hk
    rename_i hsz
    subst hsz
    obtain ⟨hn, hk⟩ := ifK_some hk
    have hn : n = l'.length := by simpa using hn
    injection hk with hk
    have hk : l' = l := hk
    subst hk
    refine fin _ hvs fun ρ2 w2 cv g2 hv => ?_
    obtain ⟨d, hd⟩ := g2.sim.some_ b _ hget
    have hS := settleF hsim hro g2 hget rfl (fun _ => by simp) (fun _ _ => by simp) (fun _ => by simp) hd
    refine ⟨_, ?_, hS⟩
    rw [hlen0]
    have hv : VR ρ2 (.slc b 0 n .unk) cv := hv
    simp only [VR] at hv ⊢
    rw [← hn]
    rcases hv with ⟨cb, co, cc, c', q1, q2, q3, q4⟩ | hv
    · rw [hd] at q1
      exact .inl ⟨cb, co, cc, c', by simpa [Ren.put] using q1, q2, q3, q4⟩
    · exact .inr hv
  · rename_i hvs
    injection hk with hk
    subst hk
    refine fin _ hvs fun ρ2 w2 cv g2 hv => ?_
    have hset := settle hsim hro g2
    have hfree : Heap.get (Sh.entss ss x) (Sh.entss ss x).length = .free := by simp [Heap.get, List.getD_eq_getElem?_getD]
    obtain ⟨q1, q2⟩ := hset.addEmpty (Nat.le_refl _) hfree (.arr e []) rfl (fun _ _ _ _ => by intro i v hi; simp [Sh.flatl] at hi) (some e.w)
    refine ⟨_, ?_, q2.congr fun z => ?_⟩
    · have hv : VR ρ2 (.val (.slice none 0 0)) cv := hv
      simp only [VR] at hv ⊢
      exact .inr ⟨rfl, none, hv⟩
    · rw [get_snoc, Heap.get_upd]
      by_cases h1 : z = (Sh.entss ss x).length
      · rw [if_pos h1, if_neg (by omega), if_pos h1]; rfl
      · rw [if_neg h1]
        split
        · rfl
        · simp [Heap.get, List.getD_eq_getElem?_getD, List.getElem?_eq_none (show (Sh.entss ss x).length ≤ z by omega)]
  · cases hk
theorem ReadsF.of_code {P : Program} (hm : P.follows .mixedOrders = true) {f : FuncId} {fn : Func} {c : Code} (hf : P.funcs[f]? = some fn) (hb : fn.body = some c) (hname : (fn.name == "runtime.NumGoroutine") = false)
    (env : Env P) (fuel : Nat) {L : Loops P env.Y} (hL : L.fit c) {ss : List Sh} {e : Sh} (hy : ∀ Γ, env.Y Γ := by exact fun _ => True.intro) : ReadsF P f ss e (codeLawF P env fuel L fn c ss e) := by
  intro x l hxy ρ w cargs hsim hargs
  exact ReadsF.core hm hf hb hname env fuel hL hy _ (args_length ss x 0) x l hxy ρ w cargs hsim hargs
theorem ReadsF.to {P : Program} {f : FuncId} {ss : List Sh} {e : Sh} {law law' : Sh.Ts ss → Option (List e.T)} (h : ReadsF P f ss e law) (he : ∀ x, law x = law' x) : ReadsF P f ss e law' := fun x y hxy => h x y (by rw [he]; exact hxy)
def readsFS {P : Program} {β : Type} (ss : List Sh) (e : Sh) (law : Sh.Ts ss → Option (List e.T)) (H : Nat → Ent) (new : Nat) (args : List AV) (K : Eff → Option β) : Option β :=
  match viewArgs H ss args with
  | some (x, bs, c) => ifK c ((law x).bind fun l => K { rb := bs, wb := [(new, fEnt e l)], nw := 1, val := .slc new 0 l.length .unk })
  | none => none
def ReadsF.summ {P : Program} {f : FuncId} {ss : List Sh} {e : Sh} {law : Sh.Ts ss → Option (List e.T)} (hr : ReadsF P f ss e law) : Summ P where
  f := f
  S := fun H new args K => readsFS (P := P) ss e law H new args K
  ok := by
    intro β H new args K r hs
    unfold readsFS at hs
    split at hs
    case h_2 => cases hs
    rename_i x bs c hv
    obtain ⟨hc, hs⟩ := ifK_some hs
    rw [Option.bind_eq_some_iff] at hs
    obtain ⟨l, hl, hs⟩ := hs
    refine ⟨_, hs, fun Γ ρ h w cargs hI hargs hH hn hfree => ?_⟩
    obtain ⟨ρg, _, h1, h2, _⟩ := sim_views hI.sim.baseLe hI.sim.old (viewArgs_ok (Q := fun _ => True) hI.sim ss args _ hargs x bs c hv hH (fun _ _ => trivial) hc)
    refine (hr x l hl ρg w cargs h2 h1).mono fun en w' ⟨ρg', cv, he, hvv, hJ⟩ => ?_
    obtain ⟨ρ', g1, g2, g3⟩ := after_pure hI (hg := Sh.entss ss x) (fun b blk hb => entss_norw hb) (es := [fEnt e l]) rfl hJ hn hfree
    refine ⟨ρ', cv, he, g1, ?_, g3⟩
    have q := g2 0 (by simp)
    simp only [Nat.add_zero, entss_length] at q
    simp only [VR] at hvv ⊢
    rw [q]; exact hvv
end Go.Ab
namespace Go.Ab
def isSlcI (P : Program) (t : TypeId) : Bool := match P.info? t with
  | some i => (match i.desc with
    | .slice _ => true
    | _ => false)
  | none => false
theorem isSlcI_ok {P : Program} {t : TypeId} (h : isSlcI P t = true) : ∃ i e, P.info? t = some i ∧ i.desc = .slice e := by
  unfold isSlcI at h
  split at h
  · rename_i i hi
    split at h
    · rename_i e he; exact ⟨i, e, hi, he⟩
    · cases h
  · cases h
def valueOfS (P : Program) {β : Type} (H : Nat → Ent) (new : Nat) (args : List AV) (K : Eff → Option β) : Option β :=
  match args with
  | [.ifc t (.slc b o n c)] => if isSlcI P t = true then K { wb := [(new, newBlk [.slc b o n c])], nw := 1, val := .agg [.val (.pointer (some ⟨P.globals.size, t, none⟩)), .ptr new 0, .val (.int .u64 151)] } else none
  | _ => none
def valueOfSumm {P : Program} (f : FuncId) {fn : Func} (hf : P.funcs[f]? = some fn) (hname : (fn.name == "runtime.NumGoroutine") = false) (hb : fn.body.isNone = true) (hn : Extern.findNext fn = none) (he : Extern.find fn = some (fun args => Extern.ReflectliteValue.unpack (args.getD 0 (.tuple #[])))) : Summ P where
  f := f
  S := fun H new args K => valueOfS P H new args K
  ok := by
    intro β H new args K r hs
    unfold valueOfS at hs
    split at hs
    case h_2 => cases hs
    rename_i t b o n c
    split at hs
    case isFalse => cases hs
    rename_i ht
    obtain ⟨i, e, hi, hd⟩ := isSlcI_ok ht
    refine ⟨_, hs, fun Γ ρ h w cargs hI hargs hH hn0 hfree => ?_⟩
    obtain ⟨l, hl⟩ : ∃ l, cargs.toList = l := ⟨_, rfl⟩
    rw [hl] at hargs
    match l, hargs with
    | [x], hx =>
      simp only [VRs, VR] at hx
      obtain ⟨⟨v', rfl, hv⟩, _⟩ := hx
      have hc : cargs = #[.iface t v'] := Array.toList_inj.1 hl
      subst hc
      obtain ⟨p, m, c', rfl⟩ : ∃ p m c', v' = .slice p m c' := by
        rcases VR.slc_cases hv with ⟨cb, co, cc, c', _, _, rfl⟩ | ⟨_, a, rfl⟩
        · exact ⟨_, _, _, rfl⟩
        · exact ⟨_, _, _, rfl⟩
      obtain ⟨ρ', h1, h2, h3⟩ := alloc_lit hI hn0 (hfree new (Nat.le_refl _) (by simp)) t (l := [.slc b o n c]) (cs := #[.slice p m c']) (by simp only [VRs]; exact ⟨hv, trivial⟩)
      unfold Invokes
      rw [run_callFunc_extern hf hname hb hn he]
      have hr := Go.Lib.run_valueOf_slice (P := P) t e i hi hd p m c' w
      have hg : (#[Value.iface t (.slice p m c')].getD 0 (.tuple #[])) = .iface t (.slice p m c') := rfl
      simp only [hg, hr, Result.andThen]
      refine ⟨ρ', _, rfl, h1, ?_, h3⟩
      simp only [VR]
      refine ⟨_, rfl, ?_⟩
      simp only [VRs, VR]
      exact ⟨rfl, ⟨_, _, _, h2, rfl⟩, trivial, trivial⟩
    | [], hx => simp [VRs] at hx
    | _ :: _ :: _, hx => simp [VRs] at hx
def firstSlc : Ent → Option AV
  | .live blk => (match blk.cells with
    | .lit (.slc b o n c :: _) => some (.slc b o n c)
    | _ => none)
  | _ => none
def valueLenS (P : Program) {β : Type} (H : Nat → Ent) (new : Nat) (args : List AV) (K : Eff → Option β) : Option β :=
  match args with
  | [.agg [.val (.pointer (some ⟨g, t, none⟩)), .ptr b 0, .val (.int .u64 151)]] => if isSlcI P t = true ∧ P.packed t = false ∧ g = P.globals.size then (match firstSlc (H b) with
    | some (.slc _ _ n _) => K { rb := [b], val := .val (.int .i64 (n : Int)) }
    | _ => none) else none
  | _ => none
def valueLenSumm {P : Program} (f : FuncId) {fn : Func} (hf : P.funcs[f]? = some fn) (hname : (fn.name == "runtime.NumGoroutine") = false) (hb : fn.body.isNone = true) (hn : Extern.findNext fn = none) (he : Extern.find fn = some (Extern.ReflectliteValue.method (Extern.ReflectliteValue.valueError "reflectlite.Value.Len" 0) Extern.ReflectliteValue.len)) : Summ P where
  f := f
  S := fun H new args K => valueLenS P H new args K
  ok := by
    intro β H new args K r hs
    unfold valueLenS at hs
    split at hs
    case h_2 => cases hs
    rename_i g t b
    split at hs
    case isFalse => cases hs
    rename_i hc
    obtain ⟨ht, hpk, rfl⟩ := hc
    obtain ⟨i, e, hi, hd⟩ := isSlcI_ok ht
    split at hs
    case h_2 => cases hs
    rename_i b' o' n' c' hcell
    refine ⟨_, hs, fun Γ ρ h w cargs hI hargs hH hn0 hfree => ?_⟩
    obtain ⟨l, hl⟩ : ∃ l, cargs.toList = l := ⟨_, rfl⟩
    rw [hl] at hargs
    match l, hargs with
    | [x], hx =>
      simp only [VRs, VR] at hx
      obtain ⟨⟨cs', rfl, hv⟩, _⟩ := hx
      obtain ⟨l2, hl2⟩ : ∃ l, cs'.toList = l := ⟨_, rfl⟩
      rw [hl2] at hv
      match l2, hv with
      | [x1, x2, x3], hv =>
        simp only [VRs, VR] at hv
        obtain ⟨rfl, ⟨cb, co, cc, hρ, rfl⟩, rfl, _⟩ := hv
        have hc1 : cs' = #[.pointer (some ⟨P.globals.size, t, none⟩), .pointer (some ⟨cb, co + 0, none⟩), .int .u64 151] := Array.toList_inj.1 hl2
        subst hc1
        have hc : cargs = #[.agg #[.pointer (some ⟨P.globals.size, t, none⟩), .pointer (some ⟨cb, co + 0, none⟩), .int .u64 151]] := Array.toList_inj.1 hl
        subst hc
        have hb' := hH b (by simp)
        unfold firstSlc at hcell
        split at hcell
        case h_2 => cases hcell
        rename_i blk hblk
        split at hcell
        case h_2 => cases hcell
        rename_i b2 o2 n2 c2 rest hcells
        injection hcell with hcell
        have hlive : h.get b = .live blk := by rw [hb']; exact hblk
        have hat := hI.sim.cells b blk _ hlive hρ
        rw [hcells] at hat
        obtain ⟨cv, k1, k2⟩ := hat 0 _ rfl
        rw [hcell] at k2
        obtain ⟨p, c3, rfl⟩ : ∃ p c3, cv = .slice p n' c3 := by
          rcases VR.slc_cases k2 with ⟨_, _, _, c3, _, _, rfl⟩ | ⟨rfl, a, rfl⟩
          · exact ⟨_, _, rfl⟩
          · exact ⟨_, _, rfl⟩
        unfold Invokes
        rw [run_callFunc_extern hf hname hb hn he]
        have hr := Go.Lib.run_valueLen_slice (P := P) t e i hi hd hpk ⟨cb, co + 0, none⟩ p n' c3 w k1
        simp only [typeHandle] at hr
        rw [hr]
        simp only [Result.andThen]
        exact ⟨ρ, _, rfl, ρ.le_refl, by simp [VR], by simpa [Heap.upds] using hI⟩
      | [], hv => simp [VRs] at hv
      | [_], hv => simp [VRs] at hv
      | [_, _], hv => simp [VRs] at hv
      | _ :: _ :: _ :: _ :: _, hv => simp [VRs] at hv
    | [], hx => simp [VRs] at hx
    | _ :: _ :: _, hx => simp [VRs] at hx
def unifc (t : TypeId) : List AV → Option (List AV)
  | [] => some []
  | .ifc t' a :: l => if t' = t then (unifc t l).map (a :: ·) else none
  | _ :: _ => none
theorem VRs.unifc {ρ : Ren} {t : TypeId} : ∀ {as bs : List AV} {vs : List Value}, Go.Ab.unifc t as = some bs → VRs ρ as vs → ∃ us, vs = us.map (.iface t) ∧ VRs ρ bs us
  | [], bs, [], h, _ => by simp [Go.Ab.unifc] at h; subst h; exact ⟨[], rfl, trivial⟩
  | [], _, _ :: _, _, h => by simp [VRs] at h
  | a :: as, bs, vs, h, hv => by
    unfold Go.Ab.unifc at h
    split at h
    · rename_i heq; cases heq
    · rename_i t' a' l heq
      injection heq with h1 h2
      subst h1; subst h2
      split at h
      case isFalse => cases h
      rename_i ht
      subst ht
      simp only [Option.map_eq_some_iff] at h
      obtain ⟨l', hl, rfl⟩ := h
      match vs, hv with
      | v :: vs, hv =>
        simp only [VRs, VR] at hv
        obtain ⟨⟨v', rfl, h1⟩, h2⟩ := hv
        obtain ⟨us, rfl, h3⟩ := VRs.unifc hl h2
        exact ⟨v' :: us, rfl, by simp only [VRs]; exact ⟨h1, h3⟩⟩
      | [], hv => simp [VRs] at hv
    · cases h
theorem VRs.ifc {ρ : Ren} {t : TypeId} : ∀ {bs : List AV} {us : List Value}, VRs ρ bs us → VRs ρ (bs.map (.ifc t)) (us.map (.iface t))
  | [], [], _ => trivial
  | b :: bs, u :: us, h => by
    simp only [VRs, List.map_cons, VR] at *
    exact ⟨⟨u, rfl, h.1⟩, VRs.ifc h.2⟩
  | [], _ :: _, h => by simp [VRs] at h
  | _ :: _, [], h => by simp [VRs] at h
def argsI (t : TypeId) (ss : List Sh) (g : FuncId) (cs : List Sh) (x : Sh.Ts ss) : List AV := (Sh.args ss x 0).map (.ifc t) ++ [.fn (.func g) [] (boxPtrs cs (Sh.nes ss + Sh.nes cs))]
def ReadsI (P : Program) (f : FuncId) (t : TypeId) (ss : List Sh) (g : FuncId) (cs rs : List Sh) (law : Sh.Ts ss → Sh.Ts cs → Option (Sh.Ts rs)) : Prop :=
  ∀ x xs y, law x xs = some y → Does P f (argsI t ss g cs x) (heapC ss cs x xs) (outV rs y 0) (heapC ss cs x xs)
def codeLawI (P : Program) (env : Env P) (fuel : Nat) (L : Loops P env.Y) (fn : Func) (c : Code) (t : TypeId) (ss : List Sh) (g : FuncId) (cs rs : List Sh) (x : Sh.Ts ss) (xs : Sh.Ts cs) : Option (Sh.Ts rs) :=
  codeK P env (Sh.nes ss + Sh.nes cs + cs.length) fuel L [] (.code c) (argsI t ss g cs x ++ List.replicate (fn.ntmps - (ss.length + 1)) (.val undef)) (heapC ss cs x xs) fun e t h => outK (P := P) fn rs e t h
theorem ReadsI.of_code {P : Program} (hm : P.follows .mixedOrders = true) {f : FuncId} {fn : Func} {c : Code} (hf : P.funcs[f]? = some fn) (hb : fn.body = some c) (hname : (fn.name == "runtime.NumGoroutine") = false)
    (env : Env P) (fuel : Nat) {L : Loops P env.Y} (hL : L.fit c) {t : TypeId} {ss : List Sh} {g : FuncId} {cs rs : List Sh} (hrs : Sh.nes rs = 0) (hy : ∀ Γ, env.Y Γ := by exact fun _ => True.intro) : ReadsI P f t ss g cs rs (codeLawI P env fuel L fn c t ss g cs rs) := by
  intro x xs y hxy ρ w cargs hsim hargs
  unfold codeLawI at hxy
  have hlen0 := heapC_length ss cs x xs
  obtain ⟨e, t1, h1, hk, hn1, hg⟩ := codeK_ok hm fuel L [] (.code c) _ _ _ c hL (.inr rfl) (by omega) hxy
  unfold outK at hk
  split at hk
  case h_2 => cases hk
  rename_i hex
  split at hk
  case h_2 => cases hk
  rename_i vs hvs
  split at hk
  case h_2 => cases hk
  rename_i y' bs cc hview
  obtain ⟨hcc, hk⟩ := ifK_some hk
  injection hk with hk; subst hk
  unfold Invokes
  have hcall : (callFunc f cargs).run P w = .ok (.enter f cargs) w := by
    simp only [callFunc, program, Sem.run_bind, Sem.run, Result.andThen, hf]
    simp only [hname, hb, Option.isNone_some, Bool.false_eq_true, if_false]
    rfl
  rw [hcall]
  simp only
  have hlen := hargs.length
  simp only [argsI, List.length_append, List.length_map, args_length, List.length_singleton] at hlen
  have hro : ∀ b blk, Heap.get (heapC ss cs x xs) b = .live blk → blk.rw = false := fun b blk hb => heapC_norw hb
  have hI : Inv ⟨(heapC ss cs x xs).length, ρ, heapC ss cs x xs, w⟩ ρ (heapC ss cs x xs) w :=
    ⟨hsim, fun _ _ => rfl, rfl, rfl, rfl, rfl, Nat.le_refl _, fun _ _ _ => rfl, fun b blk d hb hd hrw hs => by rw [hro b blk hb] at hrw; cases hrw⟩
  have hV : VRs ρ (argsI t ss g cs x ++ List.replicate (fn.ntmps - (ss.length + 1)) (.val undef)) ({ tmps := cargs ++ Array.replicate (fn.ntmps - cargs.size) undef, defers := [] } : Act).tmps.toList := by
    simp only [Array.toList_append, Array.toList_replicate]
    refine hargs.append ?_
    rw [hlen]
    simpa using VRs.replicate (ρ := ρ) (a := .val undef) (v := undef) (by simp [VR]) (fn.ntmps - cargs.size)
  refine calls_of_runs hf hb hg hex hlen0 (hy _) hI hV fun ρ2 w2 a2 g2 g3 => ?_
  obtain ⟨us, cv, k1, k2, k3⟩ := run_results_list (P := P) g2 g3 hvs
  have hva := viewArgs_ok (Q := fun _ => True) g2.sim rs vs us k2 y' bs cc hview (fun b _ => rfl) (fun _ _ => trivial) hcc
  have hout : VR ρ (outV rs y' 0) cv := by
    obtain ⟨c0, hc0, hvv⟩ := hva
    have : c0 = [] := List.length_eq_zero_iff.1 (by rw [hc0, hrs])
    subst this
    refine k3 ρ _ ?_
    have := (hvv ⟨ρ.f, ρ2.base⟩ 0 rfl (fun i d hi => by simp at hi)).1
    exact args_shift rs y' 0 _ (fun k hk => by omega) us this
  have hset := settle hsim hro g2
  exact ⟨cv, k1, ρ, cv, rfl, hout, hset⟩
theorem ReadsI.to {P : Program} {f : FuncId} {t : TypeId} {ss : List Sh} {g : FuncId} {cs rs : List Sh} {law law' : Sh.Ts ss → Sh.Ts cs → Option (Sh.Ts rs)} (h : ReadsI P f t ss g cs rs law) (he : ∀ x xs, law x xs = law' x xs) : ReadsI P f t ss g cs rs law' := fun x xs y hxy => h x xs y (by rw [he]; exact hxy)
def readsIS {P : Program} {β : Type} (t : TypeId) (ss : List Sh) (g : FuncId) (cs rs : List Sh) (law : Sh.Ts ss → Sh.Ts cs → Option (Sh.Ts rs)) (H : Nat → Ent) (new : Nat) (args : List AV) (K : Eff → Option β) : Option β :=
  match args.drop ss.length with
  | [.fn (.func g') [] caps] => if g' = g then (match unifc t (args.take ss.length) with
    | some as => (match viewArgs H ss as with
      | some (x, bs, c) => (match viewBoxes H cs caps with
        | some (xs, bs', c') => ifK (c && c') ((law x xs).bind fun y => K { rb := bs ++ bs', val := outV rs y 0 })
        | none => none)
      | none => none)
    | none => none) else none
  | _ => none
def ReadsI.summ {P : Program} {f : FuncId} {t : TypeId} {ss : List Sh} {g : FuncId} {cs rs : List Sh} {law : Sh.Ts ss → Sh.Ts cs → Option (Sh.Ts rs)} (hr : ReadsI P f t ss g cs rs law) (hrs : Sh.nes rs = 0) : Summ P where
  f := f
  S := fun H new args K => readsIS (P := P) t ss g cs rs law H new args K
  ok := by
    intro β H new args K r hs
    unfold readsIS at hs
    split at hs
    case h_2 => cases hs
    rename_i g' caps hdrop
    split at hs
    case isFalse => cases hs
    rename_i hg
    subst hg
    split at hs
    case h_2 => cases hs
    rename_i as has
    split at hs
    case h_2 => cases hs
    rename_i x bs c hv
    split at hs
    case h_2 => cases hs
    rename_i xs bs' c' hvb
    obtain ⟨hc, hs⟩ := ifK_some hs
    simp only [Bool.and_eq_true] at hc
    rw [Option.bind_eq_some_iff] at hs
    obtain ⟨y, hy, hs⟩ := hs
    refine ⟨_, hs, fun Γ ρ h w cargs hI hargs hH hn hfree => ?_⟩
    have hH1 : ∀ b ∈ bs, h.get b = H b := fun b hb => hH b (List.mem_append.2 (.inl hb))
    have hH2 : ∀ b ∈ bs', h.get b = H b := fun b hb => hH b (List.mem_append.2 (.inr hb))
    have hsplit : args = args.take ss.length ++ [.fn (.func g') [] caps] := by rw [← hdrop, List.take_append_drop]
    rw [hsplit] at hargs
    obtain ⟨v1, v2, hv12, hr1, hr2⟩ := VRs.split _ _ _ hargs
    cases v2 with
    | nil => simp [VRs] at hr2
    | cons fv rest =>
      simp only [VRs] at hr2
      have hrest : rest = [] := by
        cases rest with
        | nil => rfl
        | cons => simp [VRs] at hr2
      subst hrest
      have hfv := hr2.1
      simp only [VR] at hfv
      obtain ⟨fs', cs', rfl, hfs, hcs⟩ := hfv
      obtain ⟨u1, rfl, hr3⟩ := VRs.unifc has hr1
      obtain ⟨c1, n1, f1⟩ := viewArgs_ok (Q := fun _ => True) hI.sim ss _ _ hr3 x bs c hv hH1 (fun _ _ => trivial) hc.1
      obtain ⟨c2, d2, n2, m2, f2⟩ := viewBoxes_ok hI.sim cs caps _ hcs xs bs' c' hvb hH2 hc.2
      let ρg : Ren := ⟨fun b => (c1 ++ (c2 ++ d2))[b]?, ρ.base⟩
      obtain ⟨a1, a2⟩ := f1 ρg 0 rfl fun i d hi => by
        show (c1 ++ (c2 ++ d2))[0 + i]? = _
        rw [Nat.zero_add, List.getElem?_append_left (List.getElem?_eq_some_iff.1 hi).1]; exact hi
      obtain ⟨b1, b2, b3⟩ := f2 ρg (Sh.nes ss) (Sh.nes ss + Sh.nes cs) rfl (fun i d hi => by
        show (c1 ++ (c2 ++ d2))[Sh.nes ss + i]? = _
        rw [List.getElem?_append_right (by omega), n1, Nat.add_sub_cancel_left, List.getElem?_append_left (List.getElem?_eq_some_iff.1 hi).1]; exact hi) (fun i d hi => by
        show (c1 ++ (c2 ++ d2))[Sh.nes ss + Sh.nes cs + i]? = _
        rw [List.getElem?_append_right (by omega), n1, List.getElem?_append_right (by omega), n2, show Sh.nes ss + Sh.nes cs + i - Sh.nes ss - Sh.nes cs = i by omega]; exact hi)
      have e1 := entss_length ss x
      have e2 := entss_length cs xs
      have e3 := boxes_length cs xs (Sh.nes ss)
      have hsim : Sim ρg (heapC ss cs x xs) w := by
        refine sim_ro hI.sim.baseLe hI.sim.old (fun b blk hb => heapC_norw hb) (fun b blk hb => ?_) (fun b hb => ?_)
        · have hb := heap_mem hb
          unfold heapC at hb
          by_cases h1 : b < Sh.nes ss
          · rw [List.getElem?_append_left (by omega)] at hb
            obtain ⟨d, h3, h4, _⟩ := a2 b blk hb
            exact ⟨d, by show (c1 ++ (c2 ++ d2))[b]? = _; rw [List.getElem?_append_left (by omega)]; exact h3, h4⟩
          · rw [List.getElem?_append_right (by omega)] at hb
            by_cases h2 : b - Sh.nes ss < Sh.nes cs
            · rw [List.getElem?_append_left (by omega)] at hb
              obtain ⟨d, h3, h4⟩ := b2 _ blk hb
              refine ⟨d, ?_, h4⟩
              show (c1 ++ (c2 ++ d2))[b]? = _
              rw [List.getElem?_append_right (by omega), List.getElem?_append_left (by omega), n1, ← e1]; exact h3
            · rw [List.getElem?_append_right (by omega)] at hb
              obtain ⟨d, h3, h4⟩ := b3 _ blk hb
              refine ⟨d, ?_, h4⟩
              show (c1 ++ (c2 ++ d2))[b]? = _
              rw [List.getElem?_append_right (by omega), List.getElem?_append_right (by omega), n1, n2, ← e1, ← e2]; exact h3
        · show (c1 ++ (c2 ++ d2))[b]? = none
          refine List.getElem?_eq_none ?_
          rcases Nat.lt_or_ge b (heapC ss cs x xs).length with h9 | h9
          · exfalso
            obtain ⟨blk, k1, _⟩ := heapC_ro (ss := ss) (cs := cs) (x := x) (xs := xs) (heapC ss cs x xs)[b] (List.getElem_mem h9)
            simp only [Heap.get, List.getD_eq_getElem?_getD, List.getElem?_eq_getElem h9, Option.getD_some, k1] at hb
            cases hb
          · rw [heapC_length] at h9
            simp; omega
      have hargsg : VRs ρg (argsI t ss g' cs x) cargs.toList := by
        rw [hv12]
        refine (VRs.ifc a1).append ?_
        simp only [VRs, VR]
        exact ⟨⟨fs', cs', rfl, hfs.nil_any, b1⟩, trivial⟩
      refine (hr x xs y hy ρg w cargs hsim hargsg).mono fun e w' ⟨ρg', cv, he, hvv, hJ⟩ => ?_
      obtain ⟨ρ', g1, g2, g3⟩ := after_pure hI (hg := heapC ss cs x xs) (fun b blk hb => heapC_norw hb) (es := []) rfl (by rw [List.append_nil]; exact hJ) hn (fun z h1 h2 => by simp at h2; omega)
      exact ⟨ρ', cv, he, g1, outV_shift rs y 0 0 (fun k hk => by omega) hvv, g3⟩
end Go.Ab
namespace Go.Ab
mutual
def noYA : AV → Bool
  | .fn f a b => (match f with
    | .yield _ => false
    | _ => true) && (noYL a && noYL b)
  | .agg l => noYL l
  | .tup l => noYL l
  | .ifc _ v => noYA v
  | .any => true
  | .val _ => true
  | .ptr .. => true
  | .elt .. => true
  | .slc .. => true
def noYL : List AV → Bool
  | [] => true
  | a :: l => noYA a && noYL l
end
def noYE : List Ent → Bool
  | [] => true
  | .live b :: l => (match b.cells with
    | .lit l => noYL l
    | _ => true) && noYE l
  | _ :: l => noYE l
mutual
theorem VR.noY {ρ ρ' : Ren} (hf : ∀ b, ρ' b = ρ b) : ∀ (v : AV) (cv : Value), noYA v = true → VR ρ v cv → VR ρ' v cv
  | .any, _, _, _ => by simp [VR]
  | .val v, cv, _, h => by simpa [VR] using h
  | .ptr b o, cv, _, h => by simpa only [VR, hf] using h
  | .elt b o i w f, cv, _, h => by simpa only [VR, hf] using h
  | .slc b o n (.exact c), cv, _, h => by simpa only [VR, hf] using h
  | .slc b o n .unk, cv, _, h => by simpa only [VR, hf] using h
  | .slc b o n .low, cv, _, h => by simpa only [VR, hf] using h
  | .slc b o n .part, cv, _, h => by simpa only [VR, hf] using h
  | .slc b o n .nn, cv, _, h => by simpa only [VR, hf] using h
  | .fn f a b, cv, hn, h => by
    simp only [noYA, Bool.and_eq_true] at hn
    simp only [VR] at h ⊢
    obtain ⟨x, y, h1, h2, h3⟩ := h
    refine ⟨x, y, ?_, VRs.noY hf a _ hn.2.1 h2, VRs.noY hf b _ hn.2.2 h3⟩
    cases f with
    | yield k => simp at hn
    | _ => exact h1
  | .agg l, cv, hn, h => by
    simp only [noYA] at hn
    simp only [VR] at h ⊢
    obtain ⟨x, h1, h2⟩ := h
    exact ⟨x, h1, VRs.noY hf l _ hn h2⟩
  | .tup l, cv, hn, h => by
    simp only [noYA] at hn
    simp only [VR] at h ⊢
    obtain ⟨x, h1, h2⟩ := h
    exact ⟨x, h1, VRs.noY hf l _ hn h2⟩
  | .ifc t v, cv, hn, h => by
    simp only [noYA] at hn
    simp only [VR] at h ⊢
    obtain ⟨x, h1, h2⟩ := h
    exact ⟨x, h1, VR.noY hf v _ hn h2⟩
theorem VRs.noY {ρ ρ' : Ren} (hf : ∀ b, ρ' b = ρ b) : ∀ (l : List AV) (cs : List Value), noYL l = true → VRs ρ l cs → VRs ρ' l cs
  | [], [], _, _ => by simp [VRs]
  | a :: l, v :: cs, hn, h => by
    simp only [noYL, Bool.and_eq_true] at hn
    simp only [VRs] at h ⊢
    exact ⟨VR.noY hf a v hn.1 h.1, VRs.noY hf l cs hn.2 h.2⟩
  | [], _ :: _, _, h => by simp [VRs] at h
  | _ :: _, [], _, h => by simp [VRs] at h
end
theorem noYL_get : ∀ (l : List AV) (i : Nat) (a : AV), noYL l = true → l[i]? = some a → noYA a = true
  | [], i, a, _, h => by simp at h
  | x :: l, 0, a, hn, h => by simp only [noYL, Bool.and_eq_true] at hn; simp at h; subst h; exact hn.1
  | x :: l, i + 1, a, hn, h => by simp only [noYL, Bool.and_eq_true] at hn; exact noYL_get l i a hn.2 (by simpa using h)
theorem noYE_get : ∀ (l : List Ent) (i : Nat) (b : Blk), noYE l = true → l[i]? = some (.live b) → ∀ cs, b.cells = .lit cs → noYL cs = true
  | [], i, b, _, h => by simp at h
  | e :: l, 0, b, hn, h => by
    simp at h; subst h
    intro cs hcs
    simp only [noYE, hcs, Bool.and_eq_true] at hn; exact hn.1
  | e :: l, i + 1, b, hn, h => by
    have hn : noYE l = true := by
      cases e with
      | live b' => simp only [noYE, Bool.and_eq_true] at hn; exact hn.2
      | free => simpa [noYE] using hn
      | dead => simpa [noYE] using hn
    exact noYE_get l i b hn (by simpa using h)
theorem RowIn.heap {W W' : World} (hW : W'.heap = W.heap) {cv : Value} {r : List Value} (h : RowIn W cv r) : RowIn W' cv r := by
  have hc : ∀ a, W'.cell? a = W.cell? a := fun a => by simp [World.cell?, hW]
  rcases h with h | ⟨b, o, c, h1, h2, h3⟩
  · exact .inl h
  · exact .inr ⟨b, o, c, h1, h2, fun j v hj => by rw [hc]; exact h3 j v hj⟩
theorem Sim.noY {ρ ρ' : Ren} {h : Heap} {w : World} (hS : Sim ρ h w) (hf : ∀ b, ρ' b = ρ b) (hb : ρ'.base.heap = ρ.base.heap) (hn : noYE h = true) : Sim ρ' h w := by
  refine ⟨fun b blk hl => by rw [hf]; exact hS.some_ b blk hl, fun b blk c hl hc => ?_, fun b blk c hl hc => hS.inside b blk c hl (by rw [← hf]; exact hc), fun b blk c hl hc => hS.own b blk c hl (by rw [← hf]; exact hc),
    fun b b' blk blk' c c' hl hl' hne hc hc' => hS.apart b b' blk blk' c c' hl hl' hne (by rw [← hf]; exact hc) (by rw [← hf]; exact hc'), fun b hl => by rw [hf]; exact hS.dom b hl, by rw [hb]; exact hS.baseLe, fun i hi => by rw [hb]; exact hS.old i (by rw [← hb]; exact hi), fun b blk c hl hc hr hs => by rw [hb]; exact hS.above b blk c hl (by rw [← hf]; exact hc) hr hs⟩
  have := hS.cells b blk c hl (by rw [← hf]; exact hc)
  cases hk : blk.cells with
  | lit l =>
    rw [hk] at this
    intro i v hi
    obtain ⟨cv, h1, h2⟩ := this i v hi
    exact ⟨cv, h1, VR.noY hf v cv (noYL_get l i v (noYE_get h b blk hn (heap_mem hl) l hk) hi) h2⟩
  | sym l => rw [hk] at this; exact this
  | arr s l => rw [hk] at this; exact this
  | rows l =>
    rw [hk] at this
    intro i r hi
    obtain ⟨cv, h1, h2⟩ := this i r hi
    exact ⟨cv, h1, h2.heap hb⟩
  | arrs s l =>
    rw [hk] at this
    intro i r hi
    obtain ⟨cv, h1, h2⟩ := this i r hi
    exact ⟨cv, h1, h2.heap hb⟩
theorem okA_mono_aux {m n : Nat} (h : m ≤ n) : (∀ a : AV, okA m a = true → okA n a = true) := by
  intro a
  refine AV.rec (motive_1 := fun a => okA m a = true → okA n a = true) (motive_2 := fun l => okL m l = true → okL n l = true) ?_ ?_ ?_ ?_ ?_ ?_ ?_ ?_ ?_ ?_ ?_ a <;> intros <;> simp_all [okA, okL] <;> omega
theorem okL_mono {m n : Nat} (h : m ≤ n) : ∀ (l : List AV), okL m l = true → okL n l = true
  | [], _ => by simp [okL]
  | a :: l, hl => by
    simp only [okL, Bool.and_eq_true] at hl ⊢
    exact ⟨okA_mono_aux h a hl.1, okL_mono h l hl.2⟩
theorem VRs.agree {ρ0 ρ : Ren} {n : Nat} (ha : ∀ b, b < n → ρ b = ρ0 b) (hb : ρ.base = ρ0.base) {l : List AV} {cs : List Value} (hk : okL n l = true) (h : VRs ρ0 l cs) : VRs ρ l cs := by
  refine VRs.mono (ρ := ρ0.below n) ⟨fun b c hc => ?_, hb⟩ _ _ (VRs.below _ _ hk h)
  unfold Ren.below at hc
  simp only at hc
  split at hc
  · rename_i hlt; rw [ha b hlt]; exact hc
  · cases hc
structure Yi where
  t : List AV
  ps : Array Tmp
  asg : Code
  body : Code
def Yi.rec_ (yi : Yi) (fn : FuncId) (tmps : Array Value) (D : Nat) (s : LoopState) : Loop := { state := s, pending := none, fn, tmps, params := yi.ps, assign := yi.asg, body := yi.body, defers := D }
def Yi.ok (yi : Yi) (Γ : Ctx) : Prop :=
  okL Γ.n0 yi.t = true ∧ ∃ fn tmps D, Γ.w0.heap[Γ.ρ0.base.drawn]? = some (.loop (yi.rec_ fn tmps D .ready)) ∧ VRs Γ.ρ0 yi.t tmps.toList ∧ ¬ Γ.owned Γ.ρ0.base.drawn ∧ Γ.ρ0.base.heap.size ≤ Γ.ρ0.base.drawn
theorem Yi.at_ {yi : Yi} {Γ : Ctx} {ρ : Ren} {h : Heap} {w : World} (hY : yi.ok Γ) (hI : Inv Γ ρ h w) : ∃ fn tmps D, w.heap[ρ.base.drawn]? = some (.loop (yi.rec_ fn tmps D .ready)) ∧ VRs ρ yi.t tmps.toList ∧ ρ.base.heap.size ≤ ρ.base.drawn := by
  obtain ⟨h1, fn, tmps, D, h2, h3, h4, h5⟩ := hY
  refine ⟨fn, tmps, D, ?_, VRs.agree hI.agree hI.sameBase h1 h3, by rw [hI.sameBase]; exact h5⟩
  rw [hI.sameBase, hI.keep _ (Array.getElem?_eq_some_iff.1 h2).1 h4]; exact h2
theorem Yi.stable (yi : Yi) : Stable yi.ok := fun Γ ρ h w hY hI hn => by
  obtain ⟨fn, tmps, D, h1, h2, h3⟩ := Yi.at_ (yi := yi) hY hI
  exact ⟨okL_mono hn _ hY.1, fn, tmps, D, h1, h2, hI.sim.not_owned h1 (by simp), h3⟩
theorem Inv.self {ρ : Ren} {h : Heap} {w : World} (hS : Sim ρ h w) : Inv ⟨h.length, ρ, h, w⟩ ρ h w := by
  refine ⟨hS, fun _ _ => rfl, rfl, rfl, rfl, rfl, Nat.le_refl _, fun _ _ _ => rfl, fun b blk d hb hd hrw hs => ?_⟩
  refine .inr ⟨b, blk, d, ?_, hb, hrw, hd, hs, rfl⟩
  rcases Nat.lt_or_ge b h.length with h' | h'
  · exact h'
  · simp [Heap.get, List.getD_eq_getElem?_getD, List.getElem?_eq_none h'] at hb
theorem Sim.putObj {ρ : Ren} {h : Heap} {w : World} (hS : Sim ρ h w) {D : Nat} {o o' : Obj} (hD : w.heap[D]? = some o) (ho : ∀ cs e q, o ≠ .cells cs e q) (ho' : ∀ cs e q, o' ≠ .cells cs e q) (hb : ρ.base.heap.size ≤ D) : Sim ρ h (w.putObj D o') := by
  have hc := cell_putObj hD ho ho'
  refine ⟨hS.some_, fun b blk c hb hρ => (hS.cells b blk c hb hρ).of_cell fun _ o => hc _, fun b blk c hb hρ hso => by simpa using hS.inside b blk c hb hρ hso, fun b blk c hb hρ hrw hso => ?_, hS.apart, hS.dom, by simpa using hS.baseLe, fun i hi => by rw [World.putObj_heap_other (by omega)]; exact hS.old i hi, hS.above⟩
  obtain ⟨h1, cs, e, h2, h3⟩ := hS.own b blk c hb hρ hrw hso
  refine ⟨h1, cs, e, ?_, h3⟩
  rw [World.putObj_heap_other (fun e' => ?_)]
  · exact h2
  · subst e'; rw [hD] at h2; injection h2 with h2; exact absurd h2 (ho _ _ _)
theorem Inv.round {Γ : Ctx} {ρ ρ3 : Ren} {h h3 : Heap} {w w3 : World} (hI : Inv Γ ρ h w) (hn : Γ.n0 ≤ h.length) {l : Nat} {o o' : Obj} (hl : w.heap[l]? = some o) (ho : ∀ cs e q, o ≠ .cells cs e q) (ho' : ∀ cs e q, o' ≠ .cells cs e q) (hb : ρ.base.heap.size ≤ l)
    (hJ : Inv ⟨h.length, ρ, h, w.putObj l o'⟩ ρ3 h3 w3) : Inv Γ ρ3 h3 (w3.putObj l o) := by
  have hlt : l < w.heap.size := (Array.getElem?_eq_some_iff.1 hl).1
  have hl2 : (w.putObj l o').heap[l]? = some o' := World.putObj_heap_same hlt
  have hS2 : Sim ρ h (w.putObj l o') := hI.sim.putObj hl ho ho' hb
  have hl3 : w3.heap[l]? = some o' := by
    rw [hJ.keep l (by simpa using hlt) (hS2.not_owned hl2 ho')]; exact hl2
  have hlt3 : l < w3.heap.size := (Array.getElem?_eq_some_iff.1 hl3).1
  refine hI.trans hn ⟨hJ.sim.putObj hl3 ho' ho (by rw [hJ.sameBase]; exact hb), hJ.agree, hJ.sameBase, hJ.os, hJ.tape, hJ.output, by have := hJ.size; simpa using this, fun i hi hno => ?_, fun b blk c hb hc hr hs => ?_⟩
  · by_cases e : i = l
    · subst e; rw [World.putObj_heap_same hlt3, hl]
    · rw [World.putObj_heap_other e, hJ.keep i (by simpa using hi) hno]
      exact World.putObj_heap_other e
  · have := hJ.fresh b blk c hb hc hr hs
    rcases this with h1 | h1
    · exact .inl (by simpa using h1)
    · exact .inr h1
def setPs : List Nat → List AV → List AV → List AV
  | p :: ps, a :: as, t => setPs ps as (t.set p a)
  | _, _, t => t
theorem setPs_VRs {ρ : Ren} : ∀ (ps : List Nat) (as : List AV) (vs : List Value) (t : List AV) (tv : Array Value), VRs ρ as vs → VRs ρ t tv.toList → VRs ρ (setPs ps as t) ((ps.zip vs).foldl (fun (t : Array Value) (p : Nat × Value) => t.setIfInBounds p.1 p.2) tv).toList
  | [], as, vs, t, tv, _, ht => by simpa [setPs] using ht
  | p :: ps, [], [], t, tv, _, ht => by simpa [setPs] using ht
  | p :: ps, a :: as, v :: vs, t, tv, h, ht => by
    simp only [VRs] at h
    simp only [setPs, List.zip_cons_cons, List.foldl_cons]
    refine setPs_VRs ps as vs _ _ h.2 ?_
    simp only [Array.toList_setIfInBounds]
    exact ht.set p h.1
  | p :: ps, [], _ :: _, _, _, h, _ => by simp [VRs] at h
  | p :: ps, _ :: _, [], _, _, h, _ => by simp [VRs] at h
def roundS {P : Program} (env : Env P) (fuel : Nat) (Lb : Loops P env.Y) (yi : Yi) {β : Type} (H : Nat → Ent) (new : Nat) (args : List AV) (K : Eff → Option β) : Option β :=
  let R := reachF H 1000 0 (blksL (yi.t ++ args) [])
  let hp := partHeap allRw H new R
  match okL new (yi.t ++ args) && (okEnts new hp && decide (args.length = yi.ps.size)) with
  | true => codeK P env new fuel [] [] (.code yi.asg) (setPs yi.ps.toList args yi.t) hp fun e t h => match e with
    | .normal => codeK P env h.length fuel Lb [] (.code yi.body) t h fun e t' h' => match e with
      | .normal => K (outE hp h' R (reachF h'.get 1000 0 R) (.val (.bool true)))
      | _ => none
    | _ => none
  | false => none
theorem okL_append {n : Nat} : ∀ (a b : List AV), okL n (a ++ b) = (okL n a && okL n b)
  | [], b => by simp [okL]
  | x :: a, b => by simp [okL, okL_append a b, Bool.and_assoc]
def roundY {P : Program} (hm : P.follows .mixedOrders = true) (env : Env P) (hy : ∀ Γ, env.Y Γ) (fuel : Nat) (Lb : Loops P env.Y) (yi : Yi) (hL : Lb.fit yi.body) : YSumm P where
  Y := yi.ok
  stable := yi.stable
  S := fun H new args K => roundS env fuel Lb yi H new args K
  ok := by
    intro β H new args K r hs
    unfold roundS at hs
    simp only at hs
    split at hs
    case h_2 => cases hs
    rename_i hok
    simp only [Bool.and_eq_true, decide_eq_true_eq, okL_append] at hok
    obtain ⟨⟨hokt, hoka⟩, hents, hsz⟩ := hok
    generalize hR : reachF H 1000 0 (blksL (yi.t ++ args) []) = R at *
    have hlen : (partHeap allRw H new R).length = new := by simp [partHeap]
    obtain ⟨e, t1, h1, hk, hn1, hg1⟩ := codeK_ok hm fuel [] [] (.code yi.asg) _ _ _ yi.asg Loops.fit_nil (.inl rfl) (by rw [hlen]; exact Nat.le_refl _) hs
    have hg1 : Runs P env.Y new yi.asg (setPs yi.ps.toList args yi.t) (partHeap allRw H new R) e t1 h1 := hg1
    split at hk
    case h_2 => cases hk
    obtain ⟨e2, t2, h2, hk2, hn2, hg2⟩ := codeK_ok hm fuel Lb [] (.code yi.body) _ _ _ yi.body hL (.inr rfl) (Nat.le_refl _) hk
    have hg2 : Runs P env.Y h1.length yi.body t1 h1 e2 t2 h2 := hg2
    split at hk2
    case h_2 => cases hk2
    refine ⟨_, hk2, fun Γ hY ρ h w cargs hI hV hH hn hfree => ?_⟩
    have hH : ∀ b ∈ R, h.get b = H b := hH
    have hfree : ∀ x, new ≤ x → x < new + (h2.length - (partHeap allRw H new R).length) → h.get x = .free := hfree
    rw [hlen] at hfree
    obtain ⟨fn, tmps, D, hl, ht, hb⟩ := Yi.at_ (yi := yi) hY hI
    obtain ⟨hsim, hout⟩ := out_of_inv (wr := allRw) (H := H) (new := new) (R := R) (Z := reachF h2.get 1000 0 R) (v := .val (.bool true)) (h' := h2) hents (by omega) hI hH hn hfree
    have hlt : ρ.base.drawn < w.heap.size := (Array.getElem?_eq_some_iff.1 hl).1
    have hs : cargs.size = yi.ps.size := by have := hV.length; simp at this; omega
    refine ⟨fn, _, yi.asg, yi.body, run_yield hl (by simpa [Yi.rec_] using hs), ?_⟩
    refine roundIn_of_wpIn trivial ?_
    let Γa : Ctx := ⟨new, ρ.below new, partHeap allRw H new R, w⟩
    have hIa : Inv Γa (ρ.below new) (partHeap allRw H new R) w := by
      have hI0 : Inv ⟨(partHeap allRw H new R).length, ρ.below new, partHeap allRw H new R, w⟩ (ρ.below new) (partHeap allRw H new R) w := by
        refine ⟨hsim, fun _ _ => rfl, rfl, rfl, rfl, rfl, Nat.le_refl _, fun _ _ _ => rfl, fun b blk d hb hd hrw hs => ?_⟩
        refine .inr ⟨b, blk, d, ?_, hb, hrw, hd, hs, rfl⟩
        rcases Nat.lt_or_ge b (partHeap allRw H new R).length with h' | h'
        · exact h'
        · simp [Heap.get, List.getD_eq_getElem?_getD, List.getElem?_eq_none h'] at hb
      rw [hlen] at hI0; exact hI0
    have hVa : VRs (ρ.below new) (setPs yi.ps.toList args yi.t) ((yi.ps.zip cargs).foldl (fun (t : Array Value) (p : Nat × Value) => t.setIfInBounds p.1 p.2) tmps).toList := by
      rw [← Array.foldl_toList, Array.toList_zip]
      exact setPs_VRs _ _ _ _ _ (VRs.below _ _ hoka hV) (VRs.below _ _ hokt ht)
    have hfr : ∀ (W : World), W.heap[ρ.base.drawn]? = some (.loop (yi.rec_ fn tmps D .ready)) → FrOK (some ρ.base.drawn) W := fun W hW l hl => by
      injection hl with hl; subst hl; exact ⟨_, hW⟩
    refine wpIn_mono (hg1.2 Γa rfl (hy _) (some ρ.base.drawn) (ρ.below new) w _ hIa hVa ⟨hfr w hl, fun _ _ => rfl, trivial⟩) fun ea aa wa hp => ?_
    obtain ⟨rfl, ρ1, g1, g2, g3⟩ := hp
    have hla : wa.heap[ρ.base.drawn]? = some (.loop (yi.rec_ fn tmps D .ready)) := Inv.quiet hsim g1 _ _ hl (by simp)
    have hlta : ρ.base.drawn < wa.heap.size := (Array.getElem?_eq_some_iff.1 hla).1
    have hb1 : ρ1.base.heap.size ≤ ρ.base.drawn := by rw [g1.sameBase]; exact hb
    refine ⟨_, run_beginRound hla rfl, ?_⟩
    have hbusy : (wa.putObj ρ.base.drawn (.loop { yi.rec_ fn tmps D .ready with state := .busy })).heap[ρ.base.drawn]? = some (.loop (yi.rec_ fn tmps D .busy)) := World.putObj_heap_same hlta
    have hIb : Inv ⟨h1.length, ρ1, h1, wa.putObj ρ.base.drawn (.loop { yi.rec_ fn tmps D .ready with state := .busy })⟩ ρ1 h1 (wa.putObj ρ.base.drawn (.loop { yi.rec_ fn tmps D .ready with state := .busy })) := by
      refine ⟨g1.sim.putObj hla (by simp) (by simp) hb1, fun _ _ => rfl, rfl, rfl, rfl, rfl, Nat.le_refl _, fun _ _ _ => rfl, fun b blk d hb hd hrw hs => ?_⟩
      refine .inr ⟨b, blk, d, ?_, hb, hrw, hd, hs, rfl⟩
      rcases Nat.lt_or_ge b h1.length with h' | h'
      · exact h'
      · simp [Heap.get, List.getD_eq_getElem?_getD, List.getElem?_eq_none h'] at hb
    have hda : aa.defers = [] := g3.2.1 _ rfl
    refine wpIn_mono (hg2.2 ⟨h1.length, ρ1, h1, wa.putObj ρ.base.drawn (.loop { yi.rec_ fn tmps D .ready with state := .busy })⟩ rfl (hy _) (some ρ.base.drawn) ρ1 _ aa hIb g2 ⟨fun l hl => by (injection hl with hl; subst hl; exact ⟨_, hbusy⟩), fun _ _ => hda, by rw [hda]; trivial⟩) fun eb ab wb hp => ?_
    obtain ⟨rfl, ρ3, q1, q2, q3⟩ := hp
    have hlb : wb.heap[ρ.base.drawn]? = some (.loop (yi.rec_ fn tmps D .busy)) := Inv.quiet hIb.sim q1 _ _ hbusy (by simp)
    refine ⟨_, _, run_endRound none hlb, ?_⟩
    have hfin := g1.round hn1 hla (by simp) (by simp) hb1 q1
    obtain ⟨ρ4, k1, k2, k3⟩ := hout ρ3 _ hfin
    exact ⟨ρ4, .bool true, rfl, k1, by simp [outE, VR], k3⟩
theorem Inv.allocObj {Γ : Ctx} {ρ : Ren} {h : Heap} {w : World} (hI : Inv Γ ρ h w) {o : Obj} (ho : ∀ cs e q, o ≠ .cells cs e q) : Inv Γ ρ h (w.alloc o) := by
  have hsz : (w.alloc o).heap.size = w.heap.size + 1 := by simp
  have hold : ∀ i, i < w.heap.size → (w.alloc o).heap[i]? = w.heap[i]? := fun i hi => by
    show (w.heap.push o)[i]? = _
    rw [Array.getElem?_push, if_neg (by omega)]
  refine hI.other (by omega) (fun a => ?_) (fun i cs e q hi => ?_) (fun i hi => hold i ?_) rfl rfl rfl
  · unfold World.cell?
    by_cases ha : a.block < w.heap.size
    · rw [hold _ ha]
    · by_cases h2 : a.block = w.heap.size
      · rw [h2, World.alloc_heap_new, Array.getElem?_eq_none (Nat.le_refl _)]
        cases o with
        | cells cs e q => exact absurd rfl (ho cs e q)
        | _ => rfl
      · rw [Array.getElem?_eq_none (by omega), Array.getElem?_eq_none (by omega)]
  · rw [hold i (Array.getElem?_eq_some_iff.1 hi).1]; exact hi
  · rcases hi with hi | hi
    · have := hI.sim.baseLe; omega
    · have := hI.size; omega
theorem quiet_alloc (w : World) (o : Obj) : Quiet w (w.alloc o) := fun k o' hk _ => by
  have hlt := (Array.getElem?_eq_some_iff.1 hk).1
  show (w.heap.push o)[k]? = _
  rw [Array.getElem?_push, if_neg (by omega)]; exact hk
theorem quiet_putObj {w : World} {l : Nat} {o' : Obj} {k : Nat} {x : Obj} (hk : w.heap[k]? = some x) (hne : k ≠ l) : (w.putObj l o').heap[k]? = some x := by
  rw [World.putObj_heap_other hne]; exact hk
def rangeEnv {P : Program} (hm : P.follows .mixedOrders = true) (env : Env P) (hy : ∀ Γ, env.Y Γ) (fuel : Nat) (Lb : Loops P env.Y) (yi : Yi) (hL : Lb.fit yi.body) (lI : List (Summ P)) : Env P := ⟨lI, some (roundY hm env hy fuel Lb yi hL)⟩
def rangeSumm {P : Program} (hm : P.follows .mixedOrders = true) (env : Env P) (hy : ∀ Γ, env.Y Γ) (fuel : Nat) (Lb : Loops P env.Y) (g : Operand) (ps : Array Tmp) (asg body : Code) (hLb : Lb.fit body)
    (lI : List (Summ P)) (fuelI : Nat) (Lit : (yi : Yi) → Loops P yi.ok) (gf : FuncId) (fn : Func) (c : Code) (hf : P.funcs[gf]? = some fn) (hb : fn.body = some c) (hname : (fn.name == "runtime.NumGoroutine") = false) (hres : fn.results = #[]) (hLit : ∀ yi, (Lit yi).fit c) : LSumm P env.Y where
  c := .rangeFunc g ps asg body
  S := fun {β} n0 t h K => match evalE t g with
  | .fn (.func f) [] cs =>
    if f = gf then
      (match okL h.length t && (noYL t && (noYE h && noYL cs)) with
      | true =>
        codeK P (rangeEnv hm env hy fuel Lb ⟨t, ps, asg, body⟩ hLb lI) h.length fuelI (Lit ⟨t, ps, asg, body⟩) [] (.code c) (.fn (.yield 0) [] [] :: cs ++ List.replicate (fn.ntmps - (cs.length + 1)) (.val undef)) h fun e t' h' => match okExit e && noYE h' with
          | true => K .normal t h'
          | false => none
      | false => none)
    else none
  | _ => none
  ok := by
    intro β n0 t h K r hn hs
    split at hs
    case h_2 => cases hs
    rename_i f cs hg
    split at hs
    case isFalse => cases hs
    rename_i hff
    subst hff
    split at hs
    case h_2 => cases hs
    rename_i hok
    simp only [Bool.and_eq_true] at hok
    obtain ⟨hokt, hnt, hnh, hncs⟩ := hok
    obtain ⟨e, t1, h1, hk, hn1, hgood⟩ := codeK_ok hm (env := rangeEnv hm env hy fuel Lb ⟨t, ps, asg, body⟩ hLb lI) fuelI (Lit ⟨t, ps, asg, body⟩) [] (.code c) _ _ _ c (hLit _) (.inr rfl) (Nat.le_refl _) hs
    split at hk
    case h_2 => cases hk
    rename_i hex
    simp only [Bool.and_eq_true] at hex
    obtain ⟨hex, hnh1⟩ := hex
    refine ⟨_, t, h1, hk, by omega, fun Γ hΓ hY fr ρ w a hI hV hd => ?_⟩
    refine wpIn_rangeFunc fun fn0 _ => ?_
    have hgv := VR_evalE hV g
    rw [hg] at hgv
    simp only [VR] at hgv
    obtain ⟨fs, cs', hgv, hfs, hcs⟩ := hgv
    have hfs0 : fs = #[] := by
      have := hfs.length
      exact Array.eq_empty_of_size_eq_zero (by simpa using this.symm)
    subst hfs0
    -- the record is laid
    obtain ⟨l, mark, w1, hent, hI1, hquiet, hrec, hmark, hbl⟩ : ∃ l mark w1, (Instr.enterLoop fn0 a.tmps ps asg body (frF fr).round).run P w = .ok (l, mark) w1 ∧ Inv Γ ρ h w1 ∧ Quiet w w1 ∧
        (∃ D, w1.heap[l]? = some (.loop ((Yi.mk t ps asg body).rec_ fn0 a.tmps D .ready))) ∧ (∀ w2, Quiet w1 w2 → ∀ w3, (∀ k x, k ≠ l → w2.heap[k]? = some x → w3.heap[k]? = some x) → Marks Γ fr (mark ++ a.defers) w3) ∧ (ρ.base.heap.size ≤ l ∧ Γ.w0.heap.size ≤ l) := by
      have hbase := hI.sim.baseLe
      have hsize := hI.size
      cases fr with
      | none =>
        have e1 : ((w.alloc (.deferred (some []))).heap.size) = w.heap.size + 1 := by simp
        refine ⟨w.heap.size + 1, [{ target := .collected w.heap.size, args := #[] }], _, run_enterLoop_outer _ _ _ _ _, ?_, ?_, ⟨w.heap.size, ?_⟩, ?_, by omega⟩
        · exact (hI.allocObj (by simp)).allocObj (by simp)
        · exact fun k o hk ho => quiet_alloc _ _ k o (quiet_alloc _ _ k o hk ho) ho
        · have := World.alloc_heap_new (w.alloc (.deferred (some []))) (.loop ((Yi.mk t ps asg body).rec_ fn0 a.tmps w.heap.size .ready))
          rw [e1] at this; exact this
        · intro w2 hq w3 hk3
          refine ⟨(fun l hl => by cases hl), (fun l hl => by cases hl), ?_⟩
          have hmk : ∀ (ds : List Deferred), MarksL Γ ds w → MarksL Γ ds w3 ∧ ∀ d' ∈ ds, d' ≠ ({ target := .collected w.heap.size, args := #[] } : Deferred) := by
            intro ds
            induction ds with
            | nil => exact fun _ => ⟨trivial, fun _ h => by cases h⟩
            | cons d ds ih =>
              intro hm
              obtain ⟨⟨D', e1', e2, e3, e4⟩, e5⟩ := hm
              have hD : D' < w.heap.size := (Array.getElem?_eq_some_iff.1 e3).1
              obtain ⟨i1, i2⟩ := ih e5
              refine ⟨⟨⟨D', e1', e2, hk3 D' _ (by omega) (hq _ _ (quiet_alloc _ _ _ _ (quiet_alloc _ _ _ _ e3 (by simp)) (by simp)) (by simp)), e4⟩, i1⟩, fun d' hd' => ?_⟩
              rcases List.mem_cons.1 hd' with rfl | hd'
              · rw [e1']; intro hh; injection hh with hh; injection hh with hh; omega
              · exact i2 d' hd'
          obtain ⟨m1, m2⟩ := hmk a.defers hd.2.2
          refine ⟨⟨w.heap.size, rfl, ⟨hsize, by have := hI.sameBase; rw [← this]; exact hbase⟩, hk3 _ _ (by omega) (hq _ _ ?_ (by simp)), m2⟩, m1⟩
          exact quiet_alloc _ _ _ _ (World.alloc_heap_new _ _) (by simp)
      | some l0 =>
        obtain ⟨r0, hr0⟩ := hd.1 l0 rfl
        refine ⟨w.heap.size, [], _, run_enterLoop_inner hr0 _ _ _ _ _, hI.allocObj (by simp), quiet_alloc _ _, ⟨r0.defers, World.alloc_heap_new _ _⟩, ?_, by omega⟩
        intro w2 hq w3 hk3
        have hlt0 : l0 < w.heap.size := (Array.getElem?_eq_some_iff.1 hr0).1
        refine ⟨fun l hl => ?_, fun l hl => ?_, ?_⟩
        · injection hl with hl; subst hl
          exact ⟨r0, hk3 _ _ (by omega) (hq _ _ (quiet_alloc _ _ _ _ hr0 (by simp)) (by simp))⟩
        · exact hd.2.1 _ hl
        · have h0 := hd.2.1 _ rfl
          show MarksL Γ a.defers w3
          rw [h0]; trivial
    obtain ⟨D, hrec⟩ := hrec
    let ρ' : Ren := ⟨ρ.f, { ρ.base with drawn := l }⟩
    have hcall : ∀ as w', (callFunc f as).run P w' = .ok (.enter f as) w' := fun as w' => by
      simp only [callFunc, program, Sem.run_bind, Sem.run, Result.andThen, hf]
      simp only [hname, hb, Option.isNone_some, Bool.false_eq_true, if_false]
      rfl
    refine ⟨l, mark, w1, { target := .fn (.func f) cs', args := #[.func (.yield l) #[] #[]] }, w1, f, #[.func (.yield l) #[] #[]] ++ cs', w1, hent, ?_, fun _ _ => trivial, ?_, (fun h => by cases h), ?_⟩
    · simp only [resolve, hgv]
      simp [fnAt, Deferred.ofValue, Sem.run, pure, Act.eval]
    · simp [invoke, hcall]
    · have hS' : Sim ρ' h w1 := hI1.sim.noY (fun _ => rfl) rfl hnh
      have hYi : (Yi.mk t ps asg body).ok ⟨h.length, ρ', h, w1⟩ := ⟨hokt, fn0, a.tmps, D, hrec, VRs.noY (ρ := ρ) (ρ' := ρ') (fun _ => rfl) _ _ hnt hV, hS'.not_owned hrec (by simp), hbl.1⟩
      have hVi : VRs ρ' (.fn (.yield 0) [] [] :: cs ++ List.replicate (fn.ntmps - (cs.length + 1)) (.val undef)) ((#[Value.func (.yield l) #[] #[]] ++ cs') ++ Array.replicate (fn.ntmps - (#[Value.func (.yield l) #[] #[]] ++ cs').size) undef).toList := by
        have hlen := hcs.length
        have hsz : (#[Value.func (.yield l) #[] #[]] ++ cs').size = cs.length + 1 := by simp at hlen ⊢; omega
        rw [hsz]
        simp only [Array.toList_append, Array.toList_replicate]
        refine VRs.append ?_ (VRs.replicate (ρ := ρ') (a := .val undef) (v := undef) (by simp [VR]) _)
        simp only [List.singleton_append, VRs]
        exact ⟨by simp only [VR]; exact ⟨#[], #[], rfl, by simp [VRs], by simp [VRs]⟩, VRs.noY (ρ := ρ) (ρ' := ρ') (fun _ => rfl) _ _ hncs hcs⟩
      refine callsIn_frF (calls_of_runs hf hb hgood hex (Γ := ⟨h.length, ρ', h, w1⟩) rfl hYi (Inv.self hS') hVi fun ρ2 w2 a2 g2 g3 => ?_)
      refine ⟨.tuple #[], by simp [results, hres, Sem.run, pure], ?_⟩
      have hq2 : Quiet w1 w2 := Inv.quiet hS' g2
      have hl2 := hq2 _ _ hrec (by simp)
      refine ⟨none, _, run_endLoop hl2 (by simp [Yi.rec_]), ?_⟩
      have hbase2 : ρ2.base.heap = ρ.base.heap := by rw [g2.sameBase]
      have hJ : Inv ⟨h.length, ρ, h, w1⟩ ⟨ρ2.f, ρ.base⟩ h1 w2 :=
        ⟨g2.sim.noY (fun _ => rfl) hbase2.symm hnh1, g2.agree, rfl, g2.os, g2.tape, g2.output, g2.size, g2.keep, g2.fresh⟩
      have hfin : Inv Γ ⟨ρ2.f, ρ.base⟩ h1 w2 := hI1.trans (by omega) hJ
      refine ⟨rfl, ⟨ρ2.f, ρ.base⟩, hfin.putObj hl2 (by simp) (by simp) hbl.2 hbl.1, VRs.agree (ρ0 := ρ) (ρ := ⟨ρ2.f, ρ.base⟩) (n := h.length) (fun b hb => g2.agree b hb) rfl hokt hV, hmark w2 hq2 _ fun k x hne hk => quiet_putObj hk hne⟩
def rgG : Code → Operand
  | .rangeFunc g _ _ _ => g
  | _ => .const undef
def rgP : Code → Array Tmp
  | .rangeFunc _ ps _ _ => ps
  | _ => #[]
def rgA : Code → Code
  | .rangeFunc _ _ a _ => a
  | _ => .skip
def rgB : Code → Code
  | .rangeFunc _ _ _ b => b
  | _ => .skip
end Go.Ab
namespace Go.Ab
def kEnt (k : IntKind) (n : Int) : Ent := .live { cells := .lit [.val (.int k n)], rw := true }
def ReadsK (P : Program) (f : FuncId) (ss : List Sh) (g : FuncId) (k : IntKind) (law : Sh.Ts ss → Option Int) : Prop :=
  ∀ x n, law x = some n → Does P f (Sh.args ss x 0) (Sh.entss ss x) (.fn (.func g) [] [.ptr (Sh.nes ss) 0]) (Sh.entss ss x ++ [kEnt k n])
def outBx {P : Program} (fn : Func) (n0 : Nat) (g : FuncId) (k : IntKind) (ex : Exit) (t : List AV) (h : Heap) : Option Int :=
  match okExit ex with
  | true => (match resA P t h fn.results.toList with
    | some [.fn (.func g') [] [.ptr b 0]] => if g' = g ∧ n0 ≤ b then (match h.get b with
      | .live { cells := .lit [.val (.int k' n)], rw := true, grow := none } => if k' = k then some n else none
      | _ => none) else none
    | _ => none)
  | false => none
def codeLawK (P : Program) (env : Env P) (fuel : Nat) (L : Loops P env.Y) (fn : Func) (c : Code) (ss : List Sh) (g : FuncId) (k : IntKind) (x : Sh.Ts ss) : Option Int :=
  codeK P env (Sh.nes ss) fuel L [] (.code c) (Sh.args ss x 0 ++ List.replicate (fn.ntmps - ss.length) (.val undef)) (Sh.entss ss x) fun ex t h => outBx (P := P) fn (Sh.nes ss) g k ex t h
theorem ReadsK.of_code {P : Program} (hm : P.follows .mixedOrders = true) {f : FuncId} {fn : Func} {c : Code} (hf : P.funcs[f]? = some fn) (hb : fn.body = some c) (hname : (fn.name == "runtime.NumGoroutine") = false)
    (env : Env P) (fuel : Nat) {L : Loops P env.Y} (hL : L.fit c) {ss : List Sh} {g : FuncId} {k : IntKind} (hy : ∀ Γ, env.Y Γ := by exact fun _ => True.intro) : ReadsK P f ss g k (codeLawK P env fuel L fn c ss g k) := by
  intro x n hxy ρ w cargs hsim hargs
  unfold codeLawK at hxy
  have hlen0 := entss_length ss x
  obtain ⟨ex, t1, h1, hk, hn1, hg⟩ := codeK_ok hm fuel L [] (.code c) _ _ _ c hL (.inr rfl) (by omega) hxy
  unfold outBx at hk
  split at hk
  case h_2 => cases hk
  rename_i hex
  have hcall : (callFunc f cargs).run P w = .ok (.enter f cargs) w := by
    simp only [callFunc, program, Sem.run_bind, Sem.run, Result.andThen, hf]
    simp only [hname, hb, Option.isNone_some, Bool.false_eq_true, if_false]
    rfl
  have hlen := hargs.length
  rw [args_length] at hlen
  have hro : ∀ b blk, Heap.get (Sh.entss ss x) b = .live blk → blk.rw = false := fun b blk hb => entss_norw hb
  have hI : Inv ⟨(Sh.entss ss x).length, ρ, Sh.entss ss x, w⟩ ρ (Sh.entss ss x) w :=
    ⟨hsim, fun _ _ => rfl, rfl, rfl, rfl, rfl, Nat.le_refl _, fun _ _ _ => rfl, fun b blk d hb hd hrw hs => by rw [hro b blk hb] at hrw; cases hrw⟩
  have hV : VRs ρ (Sh.args ss x 0 ++ List.replicate (fn.ntmps - ss.length) (.val undef)) ({ tmps := cargs ++ Array.replicate (fn.ntmps - cargs.size) undef, defers := [] } : Act).tmps.toList := by
    simp only [Array.toList_append, Array.toList_replicate]
    refine hargs.append ?_
    rw [hlen]
    simpa using VRs.replicate (ρ := ρ) (a := .val undef) (v := undef) (by simp [VR]) (fn.ntmps - cargs.size)
  split at hk
  case h_2 => cases hk
  rename_i g' b hvs
  split at hk
  case isFalse => cases hk
  rename_i hgb
  obtain ⟨rfl, hbn⟩ := hgb
  split at hk
  case h_2 => cases hk
  rename_i k' n' hget
  split at hk
  case isFalse => cases hk
  rename_i hkk
  subst hkk
  injection hk with hk
  subst hk
  unfold Invokes
  rw [hcall]
  simp only
  refine calls_of_runs hf hb hg hex hlen0 (hy _) hI hV fun ρ2 w2 a2 g2 g3 => ?_
  obtain ⟨us, cv, k1, k2, k3⟩ := run_results_list (P := P) g2 g3 hvs
  have hv : VR ρ2 (.fn (.func g') [] [.ptr b 0]) cv := k3 ρ2 _ k2
  obtain ⟨d, hd⟩ := g2.sim.some_ b _ hget
  have hS := settleF hsim hro g2 hget rfl (fun l hl => ⟨[.int k' n'], by injection hl with hl; exact hl.symm⟩) (fun _ _ => by simp) (fun _ => by simp) hd
  refine ⟨cv, k1, _, cv, rfl, ?_, hS⟩
  simp only [VR] at hv ⊢
  obtain ⟨fs, cs, h2, h3, h4⟩ := hv
  refine ⟨fs, cs, h2, h3.nil_any, ?_⟩
  have hl4 := h4.length
  match cs, hl4, h4 with
  | ⟨[u]⟩, _, h4 =>
    simp only [VRs, VR] at h4 ⊢
    obtain ⟨⟨cb, co, cc, e1, e2⟩, _⟩ := h4
    rw [hd] at e1
    exact ⟨⟨cb, co, cc, by rw [← hlen0]; simpa [Ren.put] using e1, e2⟩, trivial⟩
theorem ReadsK.to {P : Program} {f : FuncId} {ss : List Sh} {g : FuncId} {k : IntKind} {law law' : Sh.Ts ss → Option Int} (h : ReadsK P f ss g k law) (he : ∀ x, law x = law' x) : ReadsK P f ss g k law' := fun x y hxy => h x y (by rw [he]; exact hxy)
def readsKS {P : Program} {β : Type} (ss : List Sh) (g : FuncId) (k : IntKind) (law : Sh.Ts ss → Option Int) (H : Nat → Ent) (new : Nat) (args : List AV) (K : Eff → Option β) : Option β :=
  match viewArgs H ss args with
  | some (x, bs, c) => ifK c ((law x).bind fun n => K { rb := bs, wb := [(new, kEnt k n)], nw := 1, val := .fn (.func g) [] [.ptr new 0] })
  | none => none
def ReadsK.summ {P : Program} {f : FuncId} {ss : List Sh} {g : FuncId} {k : IntKind} {law : Sh.Ts ss → Option Int} (hr : ReadsK P f ss g k law) : Summ P where
  f := f
  S := fun H new args K => readsKS (P := P) ss g k law H new args K
  ok := by
    intro β H new args K r hs
    unfold readsKS at hs
    split at hs
    case h_2 => cases hs
    rename_i x bs c hv
    obtain ⟨hc, hs⟩ := ifK_some hs
    rw [Option.bind_eq_some_iff] at hs
    obtain ⟨n, hl, hs⟩ := hs
    refine ⟨_, hs, fun Γ ρ h w cargs hI hargs hH hn hfree => ?_⟩
    obtain ⟨ρg, _, h1, h2, _⟩ := sim_views hI.sim.baseLe hI.sim.old (viewArgs_ok (Q := fun _ => True) hI.sim ss args _ hargs x bs c hv hH (fun _ _ => trivial) hc)
    refine (hr x n hl ρg w cargs h2 h1).mono fun en w' ⟨ρg', cv, he, hvv, hJ⟩ => ?_
    obtain ⟨ρ', g1, g2, g3⟩ := after_pure hI (hg := Sh.entss ss x) (fun b blk hb => entss_norw hb) (es := [kEnt k n]) rfl hJ hn hfree
    refine ⟨ρ', cv, he, g1, ?_, g3⟩
    have q := g2 0 (by simp)
    simp only [Nat.add_zero, entss_length] at q
    simp only [VR] at hvv ⊢
    obtain ⟨fs, cs, h2, h3, h4⟩ := hvv
    refine ⟨fs, cs, h2, h3.nil_any, ?_⟩
    have hl4 := h4.length
    match cs, hl4, h4 with
    | ⟨[u]⟩, _, h4 =>
      simp only [VRs, VR] at h4 ⊢
      rw [q]; exact h4
end Go.Ab
namespace Go.Ab
theorem callR_ok {P : Program} {Γ : Ctx} {ρ : Ren} {h : Heap} {w : World} (hI : Inv Γ ρ h w) {c : CallR P} {args : List AV} {cargs : Array Value} {H : Nat → Ent} {new : Nat} (hall : VRs ρ args cargs.toList) (hargs : adapts (renL c.σ c.h.length new c.args) args = renL c.σ c.h.length new c.args)
    (hlen : c.σ.length = c.h.length) (hle : c.h.length ≤ c.h'.length) (hap : apartσ c.σ c.h = true) (hσlt : c.σ.all (fun p => decide (p.1 < new)) = true) (hok : (okL c.h'.length c.args && okEnts c.h'.length c.h && okEnts c.h'.length c.h' && okA c.h'.length c.v) = true)
    {fb : List Ob × List (Nat × Ent)} {nb : List (Nat × Ent)} (hfb : footBlocks H c.σ c.h.length new c.σ c.h c.h' = some fb) (hnb : newBlocks c.σ c.h.length new 0 (c.h'.drop c.h.length) = some nb) (hobs : ∀ p ∈ fb.1, p.holds)
    (hH : ∀ b ∈ c.σ.map (·.1), h.get b = H b) (hn : Γ.n0 ≤ new) (hfree : ∀ x, new ≤ x → x < new + (c.h'.length - c.h.length) → h.get x = .free) :
    Invokes P c.f cargs w fun en w' => ∃ ρ' cv, en = .returned cv ∧ ρ.le ρ' ∧ VR ρ' (renA c.σ c.h.length new c.v) cv ∧ Inv Γ ρ' (h.upds (fb.2 ++ nb)) w' := by
  simp only [Bool.and_eq_true] at hok
  obtain ⟨⟨⟨okargs, okh⟩, okh'⟩, okv⟩ := hok
  obtain ⟨foot, footw⟩ := foot_spec c.σ c.h c.h' fb hfb
  obtain ⟨new1, new2, new3⟩ := new_spec _ 0 nb hnb
  -- the callee's renaming
  let ρg : Ren := ⟨fun i => match c.σ[i]? with
    | some (x, off) => (ρ x).map fun c => (c.1, c.2.1 + off, c.2.2)
    | none => none, ρ.base⟩
  have tied : Tied c.σ c.h.length new c.h'.length ρ ρg := by
    refine ⟨hlen, rfl, fun b x off hb => by simp only [ρg, hb], fun b hb hbm => ?_⟩
    have h1 : ρg b = none := by
      have : c.σ[b]? = none := List.getElem?_eq_none (by omega)
      simp only [ρg, this]
    rw [h1, hI.sim.dom _ (hfree _ (by omega) (by omega))]
  have lt_of : ∀ i blk, c.h.get i = .live blk → i < c.h.length := fun i blk hi => by
    rcases Nat.lt_or_ge i c.h.length with h' | h'
    · exact h'
    · simp [Heap.get, List.getD_eq_getElem?_getD, List.getElem?_eq_none h'] at hi
  have get_of : ∀ i blk, c.h.get i = .live blk → c.h[i]? = some (.live blk) := fun i blk hi => by
    have := lt_of i blk hi
    rw [Heap.get, List.getD_eq_getElem?_getD, List.getElem?_eq_getElem this] at hi
    rw [List.getElem?_eq_getElem this]; simpa using hi
  -- a live block of the callee's heap, seen from the caller
  have liveb : ∀ i blk, c.h.get i = .live blk → ∃ x off cb, c.σ[i]? = some (x, off) ∧ h.get x = .live cb ∧
      ((blk.rw = true ∧ off = 0 ∧ cb = renBlk c.σ c.h.length new blk ∧ ((∃ blk' : Blk, c.h'[i]? = some (.live blk') ∧ blk'.rw = true ∧ (x, .live (renBlk c.σ c.h.length new blk')) ∈ fb.2) ∨ ((∀ blk' : Blk, c.h'[i]? ≠ some (.live blk')) ∧ (x, .dead) ∈ fb.2))) ∨
       (blk.rw = false ∧ (roMatch c.σ c.h.length new off cb.cells blk.cells).holds)) := by
    intro i blk hi
    obtain ⟨x, off, h1, h2, h3⟩ := foot i (lt_of i blk hi)
    obtain ⟨cb, h4, h5⟩ := h3 blk (get_of i blk hi)
    have hx : h.get x = H x := hH x (List.mem_map.2 ⟨(x, off), List.mem_of_getElem? h1, rfl⟩)
    refine ⟨x, off, cb, h1, by rw [hx, h4], ?_⟩
    rcases h5 with ⟨a1, a2, a3, a4⟩ | ⟨a1, a2⟩
    · exact .inl ⟨a1, a2, hobs _ a3, a4⟩
    · exact .inr ⟨a1, hobs _ a2⟩
  have ρg_of : ∀ i x off, c.σ[i]? = some (x, off) → ∀ d, ρg i = some d → ∃ d0, ρ x = some d0 ∧ d = (d0.1, d0.2.1 + off, d0.2.2) := by
    intro i x off hx d hd
    rw [tied.old i x off hx] at hd
    simp only [Option.map_eq_some_iff] at hd
    obtain ⟨d0, h1, h2⟩ := hd
    exact ⟨d0, h1, h2.symm⟩
  -- solidity carries over
  have solid_up : ∀ i blk x off cb, c.h.get i = .live blk → c.σ[i]? = some (x, off) → h.get x = .live cb → ∀ d d0, d = (d0.1, d0.2.1 + off, d0.2.2) → blk.solid d → cb.solid d0 := by
    intro i blk x off cb hi hx hcb d d0 hd hs
    obtain ⟨x', off', cb', h1, h2, h3⟩ := liveb i blk hi
    rw [hx] at h1; injection h1 with h1; injection h1 with e1 e2; subst e1; subst e2
    rw [hcb] at h2; injection h2 with h2; subst h2
    subst hd
    rcases h3 with ⟨a1, a2, a3, _⟩ | ⟨a1, a2⟩
    · subst a3
      rcases hs with hs | hs
      · exact .inl (by simpa [renBlk, renCells_len] using hs)
      · exact .inr ⟨by simpa [renBlk] using hs.1, hs.2⟩
    · rcases hs with hs | hs
      · refine .inl ?_
        unfold roMatch at a2
        split at a2
        · rename_i l l' e1 e2
          rw [e1] at hs
          rw [e2]
          simp only [Cells.len] at *
          split at a2
          · have a2 : l' = l := a2
            subst a2; exact hs
          · have := congrArg List.length a2; simp at this; omega
        · rename_i l l' e1 e2
          rw [e1] at hs; rw [e2]; simp only [Cells.len] at *
          have h9 : ∀ (as : List AV) (vs : List Value), AV.plains? as = some vs → as.length = vs.length := by
            intro as
            induction as with
            | nil => intro vs hv; simp [AV.plains?] at hv; subst hv; rfl
            | cons y ys ih =>
              intro vs hv
              simp only [AV.plains?, Option.bind_eq_some_iff, Option.map_eq_some_iff] at hv
              obtain ⟨v, _, l2, h2, rfl⟩ := hv
              simp [ih l2 h2]
          have := h9 _ _ a2; simp at this; omega
        · rename_i l l' e1 e2
          rw [e1] at hs; rw [e2]; simp only [Cells.len] at *
          have := congrArg List.length a2; simp [renL_length] at this; omega
        · rename_i l l' e1 e2
          rw [e1] at hs; rw [e2]; simp only [Cells.len] at *
          have h9 : ∀ (as : List AV) (vs : List Value), AV.plains? as = some vs → as.length = vs.length := by
            intro as
            induction as with
            | nil => intro vs hv; simp [AV.plains?] at hv; subst hv; rfl
            | cons y ys ih =>
              intro vs hv
              simp only [AV.plains?, Option.bind_eq_some_iff, Option.map_eq_some_iff] at hv
              obtain ⟨v, _, l2, h2, rfl⟩ := hv
              simp [ih l2 h2]
          have := h9 _ _ a2; simp at this; omega
        · rename_i l l' e1 e2
          rw [e1] at hs; rw [e2]; simp only [Cells.len] at *
          split at a2
          · have a2 : l' = l := a2
            rw [a2]; exact hs
          · exact absurd (show False = True from a2) (by simp)
        · rename_i s l s' l' e1 e2
          rw [e1] at hs; rw [e2]
          split at a2
          · have a2 : (⟨.arr s' l', false, none⟩ : Blk) = ⟨.arr s l, false, none⟩ := a2
            rw [(Blk.mk.inj a2).1]; exact hs
          · exact absurd (show False = True from a2) (by simp)
        · exact absurd (show False = True from a2) (by simp)
      · rw [a1] at hs; exact absurd hs.1 (by simp)
  have simg : Sim ρg c.h w := by
    refine ⟨fun i blk hi => ?_, fun i blk d hi hd => ?_, fun i blk d hi hd hs => ?_, fun i blk d hi hd hr hs => ?_, fun i j blk blk' d d' hi hj hij hd hd' hr hs hs' => ?_, fun i hi => ?_, hI.sim.baseLe, hI.sim.old, fun i blk d hi hd hr hs => ?_⟩
    · obtain ⟨x, off, cb, h1, h2, _⟩ := liveb i blk hi
      obtain ⟨d, hd⟩ := hI.sim.some_ x cb h2
      exact ⟨_, by rw [tied.old i x off h1, hd]; rfl⟩
    · obtain ⟨x, off, cb, h1, h2, h3⟩ := liveb i blk hi
      obtain ⟨d0, h4, rfl⟩ := ρg_of i x off h1 d hd
      have hca := hI.sim.cells x cb d0 h2 h4
      rcases h3 with ⟨a1, a2, a3, _⟩ | ⟨a1, a2⟩
      · subst a3; subst a2
        exact (CellsAt.ren tied w _ _ _ (okEnts_get okh (get_of i blk hi))).1 hca
      · simp only
        unfold roMatch at a2
        split at a2
        · rename_i l l' e1 e2
          rw [e2] at hca; rw [e1]
          intro k v hk
          have hkl : k < l.length := by
            rcases Nat.lt_or_ge k l.length with h' | h'
            · exact h'
            · simp [List.getElem?_eq_none h'] at hk
          split at a2
          · rename_i e0; have a2 : l' = l := a2; subst e0; subst a2; exact hca k v hk
          · have a2 : (l'.drop off).take l.length = l := a2
            have hk2 : l'[off + k]? = some v := by
              rw [← a2, List.getElem?_take, if_pos hkl, List.getElem?_drop] at hk; exact hk
            rw [Nat.add_assoc]; exact hca _ v hk2
        · rename_i l l' e1 e2
          rw [e2] at hca; rw [e1]
          intro k v hk
          have hkl : k < l.length := by
            rcases Nat.lt_or_ge k l.length with h' | h'
            · exact h'
            · simp [List.getElem?_eq_none h'] at hk
          obtain ⟨cs, h5, h6⟩ := CellsAt.list l' _ hca
          have h7 := plains_eq _ a2 ((h5.drop off).take l.length)
          have hk2 : cs[off + k]? = some v := by
            rw [← h7, List.getElem?_take, if_pos hkl, List.getElem?_drop] at hk; exact hk
          rw [Nat.add_assoc]; exact h6 _ v hk2
        · rename_i l l' e1 e2
          rw [e2] at hca; rw [e1]
          refine (CellsAt.ren tied w _ _ (.lit l) (by have := okEnts_get okh (get_of i blk hi); rw [e1] at this; exact this)).1 ?_
          simp only [renCells]
          intro k v hk
          have hkl : k < l.length := by
            rcases Nat.lt_or_ge k l.length with h' | h'
            · exact h'
            · have : (renL c.σ c.h.length new l)[k]? = none := List.getElem?_eq_none (by rw [renL_length]; exact h')
              rw [this] at hk; cases hk
          have a2 : (l'.drop off).take l.length = renL c.σ c.h.length new l := a2
          have hk2 : l'[off + k]? = some v := by
            rw [← a2, List.getElem?_take, if_pos hkl, List.getElem?_drop] at hk; exact hk
          rw [Nat.add_assoc]; exact hca _ v hk2
        · rename_i l l' e1 e2
          rw [e2] at hca; rw [e1]
          intro k v hk
          have hkl : k < l.length := by
            rcases Nat.lt_or_ge k l.length with h' | h'
            · exact h'
            · simp [List.getElem?_eq_none h'] at hk
          -- the concrete cells are plain
          obtain ⟨cv, h8, h9⟩ := (VRs_of_plain (ρ := ρg) _ a2).get k v hk
          refine ⟨cv, ?_, h9⟩
          rw [List.getElem?_take, if_pos hkl, List.getElem?_drop] at h8
          rw [Nat.add_assoc]; exact hca _ cv h8
        · rename_i l l' e1 e2
          rw [e2] at hca; rw [e1]
          split at a2
          · rename_i e0
            have a2 : l' = l := a2
            subst e0; subst a2
            exact hca
          · exact absurd (show False = True from a2) (by simp)
        · rename_i s l s' l' e1 e2
          rw [e2] at hca; rw [e1]
          split at a2
          · rename_i e0
            have a2 : (⟨.arr s' l', false, none⟩ : Blk) = ⟨.arr s l, false, none⟩ := a2
            rw [(Blk.mk.inj a2).1] at hca
            subst e0
            exact hca
          · exact absurd (show False = True from a2) (by simp)
        · exact absurd (show False = True from a2) (by simp)
    · obtain ⟨x, off, cb, h1, h2, h3⟩ := liveb i blk hi
      obtain ⟨d0, h4, rfl⟩ := ρg_of i x off h1 d hd
      exact hI.sim.inside x cb d0 h2 h4 (solid_up i blk x off cb hi h1 h2 _ d0 rfl hs)
    · obtain ⟨x, off, cb, h1, h2, h3⟩ := liveb i blk hi
      obtain ⟨d0, h4, rfl⟩ := ρg_of i x off h1 d hd
      rcases h3 with ⟨a1, a2, a3, _⟩ | ⟨a1, a2⟩
      · obtain ⟨b1, cs, el, b2, b3, b4⟩ := hI.sim.own x cb d0 h2 h4 (by rw [a3]; exact hr) (solid_up i blk x off cb hi h1 h2 _ d0 rfl hs)
        subst a2; subst a3
        refine ⟨by simpa using b1, cs, el, b2, by simpa [renBlk, renCells_len] using b3, b4⟩
      · rw [a1] at hr; cases hr
    · obtain ⟨x, off, cb, h1, h2, h3⟩ := liveb i blk hi
      obtain ⟨x', off', cb', h1', h2', h3'⟩ := liveb j blk' hj
      obtain ⟨d0, h4, rfl⟩ := ρg_of i x off h1 d hd
      obtain ⟨d0', h4', rfl⟩ := ρg_of j x' off' h1' d' hd'
      have hne : x ≠ x' := by
        rcases Nat.lt_or_gt_of_ne hij with hlt | hgt
        · exact apartσ_spec _ _ hap i j x x' off off' blk blk' hlt h1 h1' (get_of i blk hi) (get_of j blk' hj) (.inl hr)
        · exact fun e => apartσ_spec _ _ hap j i x' x off' off blk' blk hgt h1' h1 (get_of j blk' hj) (get_of i blk hi) (.inr hr) e.symm
      have hr' : cb.rw = true := by
        rcases h3 with ⟨a1, a2, a3, _⟩ | ⟨a1, a2⟩
        · rw [a3]; exact a1
        · rw [a1] at hr; cases hr
      exact hI.sim.apart x x' cb cb' d0 d0' h2 h2' hne h4 h4' hr' (solid_up i blk x off cb hi h1 h2 _ d0 rfl hs) (solid_up j blk' x' off' cb' hj h1' h2' _ d0' rfl hs')
    · by_cases hi' : i < c.h.length
      · obtain ⟨x, off, h1, h2, _⟩ := foot i hi'
        exfalso
        rw [Heap.get, List.getD_eq_getElem?_getD, List.getElem?_eq_getElem hi'] at hi
        rw [List.getElem?_eq_getElem hi'] at h2
        simp at hi h2; exact h2 hi
      · have : c.σ[i]? = none := List.getElem?_eq_none (by omega)
        simp only [ρg, this]
    · obtain ⟨x, off, cb, h1, h2, h3⟩ := liveb i blk hi
      obtain ⟨d0, h4, rfl⟩ := ρg_of i x off h1 d hd
      have hr' : cb.rw = true := by
        rcases h3 with ⟨a1, a2, a3, _⟩ | ⟨a1, a2⟩
        · rw [a3]; exact a1
        · rw [a1] at hr; cases hr
      exact hI.sim.above x cb d0 h2 h4 hr' (solid_up i blk x off cb hi h1 h2 _ d0 rfl hs)
  -- the arguments
  have hargsC : VRs ρg c.args cargs.toList := by
    refine (VRs.ren tied _ _ okargs).1 ?_
    rw [← hargs]
    exact VRs.adapt _ _ hall
  have hinv := c.pf ρg w _ simg hargsC
  -- what the callee leaves, in the caller's heap
  have finish : ∀ w' ρg' cv, VR ρg' c.v cv → Inv ⟨c.h.length, ρg, c.h, w⟩ ρg' c.h' w' →
      ∃ ρ', ρ.le ρ' ∧ VR ρ' (renA c.σ c.h.length new c.v) cv ∧ Inv Γ ρ' (h.upds (fb.2 ++ nb)) w' := by
    intro w' ρg' cv hv hJ
    let win : Nat → Prop := fun x => new ≤ x ∧ x < new + (c.h'.length - c.h.length)
    let ρ' : Ren := ⟨fun x => if new ≤ x ∧ x < new + (c.h'.length - c.h.length) then ρg' (c.h.length + (x - new)) else ρ x, ρ.base⟩
    have ρ'_old : ∀ x, ¬ win x → ρ' x = ρ x := fun x hx => by simp only [ρ']; rw [if_neg hx]
    have ρ'_new : ∀ k, k < c.h'.length - c.h.length → ρ' (new + k) = ρg' (c.h.length + k) := fun k hk => by simp only [ρ']; rw [if_pos (by omega)]; congr 1; omega
    have notfree : ∀ x d, ρ x = some d → ¬ win x := fun x d hx hw => by
      rw [hI.sim.dom x (hfree x hw.1 hw.2)] at hx; cases hx
    have hle : ρ.le ρ' := ⟨fun x d hx => by rw [ρ'_old x (notfree x d hx)]; exact hx, rfl⟩
    have gagree : ∀ i, i < c.h.length → ρg' i = ρg i := fun i hi => hJ.agree i hi
    have tied' : Tied c.σ c.h.length new c.h'.length ρ' ρg' := by
      refine ⟨hlen, hJ.sameBase, fun b x off hb => ?_, fun b hb hbm => ?_⟩
      · have hbl : b < c.h.length := by
          rcases Nat.lt_or_ge b c.σ.length with h' | h'
          · omega
          · simp [List.getElem?_eq_none h'] at hb
        rw [gagree b hbl, tied.old b x off hb]
        have hx : x < new := by
          have := (List.all_eq_true.1 hσlt) (x, off) (List.mem_of_getElem? hb)
          simpa using this
        rw [ρ'_old x (fun hw => by have := hw.1; omega)]
      · rw [ρ'_new _ (by omega)]; congr 1; omega
    -- the callee's blocks behind the call
    have gnot : ∀ i blk', c.h'.get i = .live blk' → i < c.h'.length := fun i blk' hi => by
      rcases Nat.lt_or_ge i c.h'.length with h' | h'
      · exact h'
      · simp [Heap.get, List.getD_eq_getElem?_getD, List.getElem?_eq_none h'] at hi
    have get_of' : ∀ i blk', c.h'[i]? = some (.live blk') → c.h'.get i = .live blk' := fun i blk' hi => by
      simp [Heap.get, List.getD_eq_getElem?_getD, hi]
    have get_h' : ∀ i blk', c.h'.get i = .live blk' → c.h'[i]? = some (.live blk') := fun i blk' hi => by
      have := gnot i blk' hi
      rw [Heap.get, List.getD_eq_getElem?_getD, List.getElem?_eq_getElem this] at hi
      rw [List.getElem?_eq_getElem this]; simpa using hi
    -- every live block of the new heap: from the callee's footprint or new ones (number j there), or untouched
    have cases_ : ∀ x blk2, (h.upds (fb.2 ++ nb)).get x = .live blk2 →
        (∃ j blk', c.h'.get j = .live blk' ∧ blk2 = renBlk c.σ c.h.length new blk' ∧ blk'.rw = true ∧ (∀ d, ρg' j = some d → ρ' x = some d) ∧ (ρ' x = ρg' j) ∧
          ((j < c.h.length ∧ ∃ blk, c.h.get j = .live blk ∧ blk.rw = true ∧ c.σ[j]? = some (x, 0)) ∨ (c.h.length ≤ j ∧ x = new + (j - c.h.length)))) ∨
        (h.get x = .live blk2 ∧ ¬ win x ∧ ∀ j blk, c.h.get j = .live blk → blk.rw = true → ∀ off, c.σ[j]? ≠ some (x, off)) := by
      intro x blk2 hx
      rcases get_upds (fb.2 ++ nb) h x with ⟨e, he, hg⟩ | ⟨hno, hg⟩
      · rw [hg] at hx; subst hx
        rcases List.mem_append.1 he with he | he
        · obtain ⟨j, off, blk, h1, h2, h3, h4⟩ := footw x _ he
          rcases h4 with ⟨blk', h5, h6, h7⟩ | h4
          · injection h7 with h7; subst h7
            have hj : c.h.get j = .live blk := by simp [Heap.get, List.getD_eq_getElem?_getD, h2]
            obtain ⟨x', off', cb, g1, g2, g3⟩ := liveb j blk hj
            rw [h1] at g1; injection g1 with g1; injection g1 with e1 e2; subst e1; subst e2
            have hoff : off = 0 := by
              rcases g3 with ⟨_, a2, _⟩ | ⟨a1, _⟩
              · exact a2
              · rw [a1] at h3; cases h3
            subst hoff
            have hjl := lt_of j blk hj
            have hρ'x : ρ' x = ρg' j := by
              have := tied'.old j x 0 h1
              rw [this]
              cases ρ' x with
              | none => rfl
              | some d => simp
            exact .inl ⟨j, blk', get_of' j blk' h5, rfl, h6, fun d hd => by rw [hρ'x]; exact hd, hρ'x, .inl ⟨hjl, blk, hj, h3, h1⟩⟩
          · cases h4
        · obtain ⟨i, hi, hxi, h5⟩ := new3 x _ he
          rcases h5 with ⟨blk', h6, h7⟩ | ⟨_, h7⟩
          · injection h7 with h7; subst h7
            rw [List.getElem?_drop] at h6
            have hx2 : x = new + (c.h.length + i - c.h.length) := by omega
            have hi' : i < c.h'.length - c.h.length := by simpa using hi
            have hρ'x : ρ' x = ρg' (c.h.length + i) := by rw [hxi, Nat.zero_add, ρ'_new i hi']
            exact .inl ⟨c.h.length + i, blk', get_of' _ _ h6, rfl, new1 i blk' (by rw [List.getElem?_drop]; exact h6), fun d hd => by rw [hρ'x]; exact hd, hρ'x, .inr ⟨by omega, hx2⟩⟩
          · cases h7
      · rw [hg] at hx
        refine .inr ⟨hx, ?_, ?_⟩
        · intro hw
          rw [hfree x hw.1 hw.2] at hx; cases hx
        · intro j blk hj hrw off hσ
          obtain ⟨x', off', cb, g1, g2, g3⟩ := liveb j blk hj
          rw [hσ] at g1; injection g1 with g1; injection g1 with e1 e2; subst e1; subst e2
          rcases g3 with ⟨_, _, _, ⟨blk', _, _, hm⟩ | ⟨_, hm⟩⟩ | ⟨a1, _⟩
          · exact hno _ (List.mem_append.2 (.inl hm))
          · exact hno _ (List.mem_append.2 (.inl hm))
          · rw [a1] at hrw; cases hrw
    -- a block that the callee owns is one of the caller's, written, and solid
    have owned_up : ∀ i, Ctx.owned ⟨c.h.length, ρg, c.h, w⟩ i → ∃ j blk x cb d, c.h.get j = .live blk ∧ blk.rw = true ∧ c.σ[j]? = some (x, 0) ∧ h.get x = .live cb ∧ cb.rw = true ∧ ρ x = some d ∧ cb.solid d ∧ d.1 = i := by
      rintro i ⟨j, blk, d, hj, hl, hrw, hd, hs, rfl⟩
      obtain ⟨x, off, cb, h1, h2, h3⟩ := liveb j blk hl
      obtain ⟨d0, h4, h5⟩ := ρg_of j x off h1 d hd
      rcases h3 with ⟨a1, a2, a3, _⟩ | ⟨a1, _⟩
      · subst a2
        refine ⟨j, blk, x, cb, d0, hl, hrw, h1, h2, by rw [a3]; exact hrw, h4, solid_up j blk x 0 cb hl h1 h2 d d0 h5 hs, by rw [h5]⟩
      · rw [a1] at hrw; cases hrw
    -- what was not touched stands
    have keepb : ∀ x cb d, h.get x = .live cb → ¬ win x → (∀ j blk, c.h.get j = .live blk → blk.rw = true → ∀ off, c.σ[j]? ≠ some (x, off)) → ρ x = some d → cb.solid d → ¬ Ctx.owned ⟨c.h.length, ρg, c.h, w⟩ d.1 ∧ w'.heap[d.1]? = w.heap[d.1]? := by
      intro x cb d hx hxn hno hd hs
      have hnot : ¬ Ctx.owned ⟨c.h.length, ρg, c.h, w⟩ d.1 := by
        intro hown
        obtain ⟨j, blk, y, yb, dy, h1, h2, h3, h4, h5, h6, h7, h8⟩ := owned_up _ hown
        have hxy : y ≠ x := fun e => hno j blk h1 h2 0 (e ▸ h3)
        exact hI.sim.apart y x yb cb dy d h4 hx hxy h6 hd h5 h7 hs h8
      exact ⟨hnot, hJ.keep _ (hI.sim.inside x cb d hx hd hs) hnot⟩
    have soldn : ∀ blk' d, (renBlk c.σ c.h.length new blk').solid d → blk'.solid d := fun blk' d hs => by
      rcases hs with hs | hs
      · exact .inl (by simpa [renBlk, renCells_len] using hs)
      · exact .inr hs
    have hw := hJ.size
    simp only at hw
    have hJb : ρg'.base = ρ.base := hJ.sameBase
    refine ⟨ρ', hle, (VR.ren tied' _ _ okv).2 hv, ⟨⟨?_, ?_, ?_, ?_, ?_, ?_, ?_, ?_, ?_⟩, ?_, hI.sameBase, hJ.os.trans hI.os, hJ.tape.trans hI.tape, hJ.output.trans hI.output, ?_, ?_, ?_⟩⟩
    · intro x blk2 hx
      rcases cases_ x blk2 hx with ⟨j, blk', h1, h2, h3, h4, h5, _⟩ | ⟨h1, h2, _⟩
      · obtain ⟨d, hd⟩ := hJ.sim.some_ j blk' h1
        exact ⟨d, h4 d hd⟩
      · rw [ρ'_old x h2]; exact hI.sim.some_ x blk2 h1
    · intro x blk2 d hx hd
      rcases cases_ x blk2 hx with ⟨j, blk', h1, h2, h3, h4, h5, _⟩ | ⟨h1, h2, h3⟩
      · subst h2
        rw [h5] at hd
        exact (CellsAt.ren tied' w' _ _ _ (okEnts_get okh' (get_h' j blk' h1))).2 (hJ.sim.cells j blk' d h1 hd)
      · rw [ρ'_old x h2] at hd
        refine ((hI.sim.cells x blk2 d h1 hd).of_cell fun hpos o => ?_).mono hle
        exact cell_of_heap (keepb x blk2 d h1 h2 h3 hd (.inl hpos)).2 o
    · intro x blk2 d hx hd hs
      rcases cases_ x blk2 hx with ⟨j, blk', h1, h2, h3, h4, h5, _⟩ | ⟨h1, h2, h3⟩
      · subst h2
        rw [h5] at hd
        exact hJ.sim.inside j blk' d h1 hd (soldn _ _ hs)
      · rw [ρ'_old x h2] at hd
        have := hI.sim.inside x blk2 d h1 hd hs
        omega
    · intro x blk2 d hx hd hr hs
      rcases cases_ x blk2 hx with ⟨j, blk', h1, h2, h3, h4, h5, _⟩ | ⟨h1, h2, h3⟩
      · subst h2
        rw [h5] at hd
        obtain ⟨b1, cs', el, b2, b3, b4⟩ := hJ.sim.own j blk' d h1 hd h3 (soldn _ _ hs)
        exact ⟨b1, cs', el, b2, by simpa [renBlk, renCells_len] using b3, b4⟩
      · rw [ρ'_old x h2] at hd
        obtain ⟨b1, cs', el, b2, b3⟩ := hI.sim.own x blk2 d h1 hd hr hs
        exact ⟨b1, cs', el, by rw [(keepb x blk2 d h1 h2 h3 hd hs).2]; exact b2, b3⟩
    · intro x y xb yb d d' hx hy hne hd hd' hr hs hs'
      -- a callee's block against an untouched one
      have cross : ∀ j blk' d z zb dz, c.h'.get j = .live blk' → blk'.rw = true → ρg' j = some d → blk'.solid d → h.get z = .live zb → ¬ win z → (∀ j blk, c.h.get j = .live blk → blk.rw = true → ∀ off, c.σ[j]? ≠ some (z, off)) → ρ z = some dz → zb.solid dz → d.1 ≠ dz.1 := by
        intro j blk' d z zb dz hj hrw hd hs hz hzn hno hdz hsz e
        have hin := hI.sim.inside z zb dz hz hdz hsz
        rcases hJ.fresh j blk' d hj hd hrw hs with hf | hf
        · simp only at hf; omega
        · rw [e] at hf; exact (keepb z zb dz hz hzn hno hdz hsz).1 hf
      rcases cases_ x xb hx with ⟨j, blk', h1, h2, h3, h4, h5, h6⟩ | ⟨h1, h2, h3⟩
      · subst h2
        rw [h5] at hd
        rcases cases_ y yb hy with ⟨j', blk'', k1, k2, k3, k4, k5, k6⟩ | ⟨k1, k2, k3⟩
        · subst k2
          rw [k5] at hd'
          have hjj : j ≠ j' := by
            rintro rfl
            rcases h6 with ⟨_, _, _, _, h6⟩ | ⟨h6, h7⟩
            · rcases k6 with ⟨_, _, _, _, k6⟩ | ⟨k6, k7⟩
              · rw [h6] at k6; injection k6 with k6; injection k6 with e1; exact hne e1
              · omega
            · rcases k6 with ⟨k6, _⟩ | ⟨k6, k7⟩
              · omega
              · exact hne (h7.trans k7.symm)
          exact hJ.sim.apart j j' blk' blk'' d d' h1 k1 hjj hd hd' h3 (soldn _ _ hs) (soldn _ _ hs')
        · rw [ρ'_old y k2] at hd'
          exact cross j blk' d y yb d' h1 h3 hd (soldn _ _ hs) k1 k2 k3 hd' hs'
      · rw [ρ'_old x h2] at hd
        rcases cases_ y yb hy with ⟨j', blk'', k1, k2, k3, k4, k5, k6⟩ | ⟨k1, k2, k3⟩
        · subst k2
          rw [k5] at hd'
          exact fun e => cross j' blk'' d' x xb d k1 k3 hd' (soldn _ _ hs') h1 h2 h3 hd hs e.symm
        · rw [ρ'_old y k2] at hd'
          exact hI.sim.apart x y xb yb d d' h1 k1 hne hd hd' hr hs hs'
    · intro x hx
      rcases get_upds (fb.2 ++ nb) h x with ⟨e, he, hg⟩ | ⟨hno, hg⟩
      · exfalso
        rw [hg] at hx; subst hx
        rcases List.mem_append.1 he with he | he
        · obtain ⟨j, off, blk, _, _, _, h4⟩ := footw x _ he
          rcases h4 with ⟨_, _, _, h7⟩ | h4
          · cases h7
          · cases h4
        · obtain ⟨i, _, _, h5⟩ := new3 x _ he
          rcases h5 with ⟨_, _, h7⟩ | ⟨_, h7⟩ <;> cases h7
      · rw [hg] at hx
        by_cases hxn : win x
        · have e1 : x = new + (x - new) := by have := hxn.1; omega
          obtain ⟨e, he⟩ := new2 (x - new) (by have := hxn.1; have := hxn.2; simp; omega)
          exfalso
          exact hno e (List.mem_append.2 (.inr (by rw [Nat.zero_add, ← e1] at he; exact he)))
        · rw [ρ'_old x hxn]; exact hI.sim.dom x hx
    · show ρ.base.heap.size ≤ _
      have := hI.sim.baseLe; omega
    · intro i hi
      have := hJ.sim.old i (by rw [hJb]; exact hi)
      rw [this, hJb]
    · intro x blk2 d hx hd hr hs
      show ρ.base.heap.size ≤ _
      rcases cases_ x blk2 hx with ⟨j, blk', h1, h2, h3, h4, h5, h6⟩ | ⟨h1, h2, h3⟩
      · subst h2
        rw [h5] at hd
        have := hJ.sim.above j blk' d h1 hd h3 (soldn _ _ hs)
        rw [hJb] at this; exact this
      · rw [ρ'_old x h2] at hd
        exact hI.sim.above x blk2 d h1 hd hr hs
    · intro b hb
      rw [ρ'_old b (fun hw => by have := hw.1; omega)]; exact hI.agree b hb
    · have := hI.size; omega
    · intro i hi hno
      rw [hJ.keep i (by simp only; have := hI.size; omega) ?_]
      · exact hI.keep i hi hno
      · intro hown
        obtain ⟨j, blk, y, yb, dy, h1, h2, h3, h4, h5, h6, h7, h8⟩ := owned_up _ hown
        subst h8
        rcases hI.fresh y yb dy h4 h6 h5 h7 with hf | hf
        · omega
        · exact hno hf
    · intro x blk2 d hx hd hr hs
      rcases cases_ x blk2 hx with ⟨j, blk', h1, h2, h3, h4, h5, h6⟩ | ⟨h1, h2, h3⟩
      · subst h2
        rw [h5] at hd
        rcases hJ.fresh j blk' d h1 hd h3 (soldn _ _ hs) with hf | hf
        · simp only at hf; have := hI.size; exact .inl (by omega)
        · obtain ⟨j, blk, y, yb, dy, h1, h2, h3, h4, h5, h6, h7, h8⟩ := owned_up _ hf
          rw [← h8]; exact hI.fresh y yb dy h4 h6 h5 h7
      · rw [ρ'_old x h2] at hd
        exact hI.fresh x blk2 d h1 hd hr hs
  exact hinv.mono fun e w'' ⟨ρg', cv, he, hv, hJ⟩ => by
    obtain ⟨ρ', h1, h2, h3⟩ := finish w'' ρg' cv hv hJ
    exact ⟨ρ', cv, he, h1, h2, h3⟩
def cEnt (cs : List AV) : Ent := .live { cells := .lit cs, rw := true }
theorem Ren.below_eq {ρ ρ2 : Ren} {n : Nat} (h : ∀ b, b < n → ρ2 b = ρ b) (hb : ρ2.base = ρ.base) : ρ2.below n = ρ.below n := by
  unfold Ren.below
  rw [hb]
  congr 1
  funext b
  by_cases hn : b < n
  · simp only [if_pos hn]; exact h b hn
  · simp only [if_neg hn]
theorem Ren.below_le {ρ : Ren} {n : Nat} : (ρ.below n).le ρ := by
  refine ⟨fun b c h => ?_, rfl⟩
  unfold Ren.below at h
  simp only at h
  split at h
  · exact h
  · cases h
theorem settleG {ρ ρ2 : Ren} {es : List Ent} {cs cs' : List AV} (hlen : cs.length = cs'.length) (hok : okL (es.length + 1) cs' = true) {h1 : Heap} {w w2 : World} (hS : Sim ρ (es ++ [cEnt cs]) w) (hro : ∀ b blk, Heap.get es b = .live blk → blk.rw = false) (hI : Inv ⟨es.length + 1, ρ, es ++ [cEnt cs], w⟩ ρ2 h1 w2)
    (hm : h1.get es.length = cEnt cs') : Inv ⟨es.length + 1, ρ, es ++ [cEnt cs], w⟩ ρ (es ++ [cEnt cs']) w2 := by
  have getN : Heap.get (es ++ [cEnt cs]) es.length = cEnt cs := by rw [get_snoc]; simp
  have agr : ρ2 es.length = ρ es.length := hI.agree es.length (Nat.lt_succ_self _)
  have hbase : ρ2.base = ρ.base := hI.sameBase
  have hsz : w.heap.size ≤ w2.heap.size := hI.size
  have sol : ∀ c, Blk.solid { cells := .lit cs', rw := true } c → Blk.solid { cells := .lit cs, rw := true } c := fun c hs => by
    unfold Blk.solid at *
    simp only [Cells.len] at *
    rw [hlen]; exact hs
  have ent : ∀ b blk, Heap.get (es ++ [cEnt cs']) b = .live blk → (b < es.length ∧ Heap.get es b = .live blk ∧ Heap.get (es ++ [cEnt cs]) b = .live blk ∧ blk.rw = false) ∨ (b = es.length ∧ blk = { cells := .lit cs', rw := true }) := fun b blk hb => by
    rw [get_snoc] at hb
    split at hb
    · rename_i hl
      exact .inl ⟨hl, hb, by rw [get_snoc, if_pos hl]; exact hb, hro b blk hb⟩
    · split at hb
      · rename_i h2
        unfold cEnt at hb
        injection hb with hb
        exact .inr ⟨h2, hb.symm⟩
      · cases hb
  have owned_of : ∀ i, Ctx.owned ⟨es.length + 1, ρ, es ++ [cEnt cs], w⟩ i → ∃ c, ρ es.length = some c ∧ Blk.solid { cells := .lit cs, rw := true } c ∧ c.1 = i := by
    rintro i ⟨b, blk, c, hb1, hb2, hb3, hb4, hb5, hb6⟩
    have hb2 : Heap.get (es ++ [cEnt cs]) b = .live blk := hb2
    rw [get_snoc] at hb2
    split at hb2
    · rw [hro b blk hb2] at hb3; cases hb3
    · split at hb2
      · rename_i h2
        unfold cEnt at hb2
        injection hb2 with hb2
        subst hb2
        have hb4 : ρ b = some c := hb4
        rw [h2] at hb4
        exact ⟨c, hb4, hb5, hb6⟩
      · cases hb2
  have keepRo : ∀ b blk c, Heap.get (es ++ [cEnt cs]) b = .live blk → b < es.length → ρ b = some c → blk.solid c → w2.heap[c.1]? = w.heap[c.1]? := fun b blk c hb hlt hc hs => by
    refine hI.keep c.1 (hS.inside b blk c hb hc hs) fun ho => ?_
    obtain ⟨c', k1, k2, k3⟩ := owned_of _ ho
    exact hS.apart es.length b _ blk c' c (by rw [getN]; rfl) hb (by omega) k1 hc rfl k2 hs k3
  have simN : ∀ c, ρ es.length = some c → CellsAt ρ w2 c.1 c.2.1 (.lit cs') := fun c hc => by
    have := hI.sim.cells es.length _ c (by rw [hm]; rfl) (by rw [agr]; exact hc)
    have := CellsAt.below (n := es.length + 1) (cs := .lit cs') hok this
    rw [Ren.below_eq (ρ := ρ) (fun b hb => hI.agree b hb) hbase] at this
    exact this.mono Ren.below_le
  refine ⟨⟨fun b blk hb => ?_, fun b blk c hb hc => ?_, fun b blk c hb hc hs => ?_, fun b blk c hb hc hr hs => ?_, fun b b' blk blk' c c' hb hb' hne hc hc' hr hs hs' => ?_, fun b hb => ?_, ?_, fun i hi => ?_, fun b blk c hb hc hr hs => ?_⟩, fun _ _ => rfl, rfl, hI.os, hI.tape, hI.output, hI.size, hI.keep, fun b blk c hb hc hr hs => ?_⟩
  · rcases ent b blk hb with ⟨h2, h3, h4, h5⟩ | ⟨h2, h3⟩
    · exact hS.some_ b blk h4
    · subst h2; exact hS.some_ _ _ (by rw [getN]; rfl)
  · rcases ent b blk hb with ⟨h2, h3, h4, h5⟩ | ⟨h2, h3⟩
    · exact (hS.cells b blk c h4 hc).of_cell fun hpos o => cell_of_heap (keepRo b blk c h4 h2 hc (.inl hpos)) o
    · subst h2; subst h3; exact simN c hc
  · rcases ent b blk hb with ⟨h2, h3, h4, h5⟩ | ⟨h2, h3⟩
    · have := hS.inside b blk c h4 hc hs; omega
    · subst h2; subst h3
      exact hI.sim.inside es.length _ c (by rw [hm]; rfl) (by rw [agr]; exact hc) hs
  · rcases ent b blk hb with ⟨h2, h3, h4, h5⟩ | ⟨h2, h3⟩
    · rw [h5] at hr; cases hr
    · subst h2; subst h3
      exact hI.sim.own es.length _ c (by rw [hm]; rfl) (by rw [agr]; exact hc) rfl hs
  · rcases ent b blk hb with ⟨h2, h3, h4, h5⟩ | ⟨h2, h3⟩
    · rw [h5] at hr; cases hr
    · subst h2; subst h3
      rcases ent b' blk' hb' with ⟨k2, k3, k4, k5⟩ | ⟨k2, k3⟩
      · exact hS.apart es.length b' _ blk' c c' (by rw [getN]; rfl) k4 hne hc hc' rfl (sol c hs) hs'
      · exact absurd k2.symm hne
  · refine hS.dom b ?_
    rw [get_snoc] at hb ⊢
    split at hb
    · rename_i hl; rw [if_pos hl]; exact hb
    · rename_i hl
      rw [if_neg hl]
      split at hb
      · cases hb
      · rename_i h2; rw [if_neg h2]
  · have := hS.baseLe; omega
  · have := hI.sim.old i (by rw [hbase]; exact hi)
    rw [this, hbase]
  · rcases ent b blk hb with ⟨h2, h3, h4, h5⟩ | ⟨h2, h3⟩
    · rw [h5] at hr; cases hr
    · subst h2; subst h3
      exact hS.above es.length _ c (by rw [getN]; rfl) hc rfl (sol c hs)
  · rcases ent b blk hb with ⟨h2, h3, h4, h5⟩ | ⟨h2, h3⟩
    · rw [h5] at hr; cases hr
    · subst h2; subst h3
      exact .inr ⟨es.length, _, c, Nat.lt_succ_self _, getN, rfl, hc, sol c hs, rfl⟩
abbrev RdT (ms : List Sh) := List Int × Sh.Ts ms
def rdB (l : List Int) : Ent := .live { cells := .arr (.int .u8) l, rw := false }
def rdC (cp : Cap) (ms : List Sh) (m : RdT ms) : List AV := .slc 0 0 m.1.length cp :: (Sh.encs ms m.2).map .val
def InActs (P : Program) (f : FuncId) (cp : Cap) (ms ss rs : List Sh) (law : RdT ms → Sh.Ts ss → Option (RdT ms × Sh.Ts rs)) : Prop :=
  ∀ m x m' y, law m x = some (m', y) → m'.1 = m.1 ∧ Does P f (.ptr 1 0 :: (Sh.encs ss x).map .val) ([rdB m.1] ++ [cEnt (rdC cp ms m)]) (resV ((Sh.encs rs y).map .val)) ([rdB m.1] ++ [cEnt (rdC cp ms m')])
def capEq : Cap → Cap → Bool
  | .exact n, .exact m => decide (n = m)
  | .unk, .unk => true
  | .low, .low => true
  | .part, .part => true
  | .nn, .nn => true
  | _, _ => false
theorem capEq_ok : ∀ {a b : Cap}, capEq a b = true → a = b
  | .exact n, .exact m, h => by simp [capEq] at h; rw [h]
  | .unk, .unk, _ => rfl
  | .low, .low, _ => rfl
  | .part, .part, _ => rfl
  | .nn, .nn, _ => rfl
  | .exact _, .unk, h => by simp [capEq] at h
  | .exact _, .low, h => by simp [capEq] at h
  | .exact _, .part, h => by simp [capEq] at h
  | .exact _, .nn, h => by simp [capEq] at h
  | .unk, .exact _, h => by simp [capEq] at h
  | .unk, .low, h => by simp [capEq] at h
  | .unk, .part, h => by simp [capEq] at h
  | .unk, .nn, h => by simp [capEq] at h
  | .low, .exact _, h => by simp [capEq] at h
  | .low, .unk, h => by simp [capEq] at h
  | .low, .part, h => by simp [capEq] at h
  | .low, .nn, h => by simp [capEq] at h
  | .part, .exact _, h => by simp [capEq] at h
  | .part, .unk, h => by simp [capEq] at h
  | .part, .low, h => by simp [capEq] at h
  | .part, .nn, h => by simp [capEq] at h
  | .nn, .exact _, h => by simp [capEq] at h
  | .nn, .unk, h => by simp [capEq] at h
  | .nn, .low, h => by simp [capEq] at h
  | .nn, .part, h => by simp [capEq] at h
def outI {P : Program} (fn : Func) (cp : Cap) (ms rs : List Sh) (l : List Int) (e : Exit) (t : List AV) (h : Heap) : Option (RdT ms × Sh.Ts rs) :=
  match okExit e with
  | true => (match resA P t h fn.results.toList with
    | some vs => (match Sh.decs rs vs with
      | some (y, []) => (match h.get 1 with
        | .live { cells := .lit (.slc 0 0 n cp' :: cs), rw := true, grow := none } => (match capEq cp' cp with
          | true => (match Sh.decs ms cs with
            | some (m', []) => ifK (decide (n = l.length)) (some ((l, m'), y))
            | _ => none)
          | false => none)
        | _ => none)
      | _ => none)
    | none => none)
  | false => none
def codeLawR (P : Program) (env : Env P) (fuel : Nat) (L : Loops P env.Y) (fn : Func) (c : Code) (cp : Cap) (ms ss rs : List Sh) (m : RdT ms) (x : Sh.Ts ss) : Option (RdT ms × Sh.Ts rs) :=
  codeK P env 2 fuel L [] (.code c) (.ptr 1 0 :: (Sh.encs ss x).map .val ++ List.replicate (fn.ntmps - ((Sh.encs ss x).length + 1)) (.val undef)) ([rdB m.1] ++ [cEnt (rdC cp ms m)]) fun e t h => outI (P := P) fn cp ms rs m.1 e t h
theorem okL_vals (n : Nat) : ∀ l : List Value, okL n (l.map .val) = true
  | [] => rfl
  | v :: l => by simp [okL, okA, okL_vals n l]
theorem rdC_ok (cp : Cap) (ms : List Sh) (m : RdT ms) : okL 2 (rdC cp ms m) = true := by
  simp only [rdC, okL, okA, okL_vals, Bool.and_true, decide_eq_true_eq]; omega
theorem InActs.of_code {P : Program} (hm : P.follows .mixedOrders = true) {f : FuncId} {fn : Func} {c : Code} (hf : P.funcs[f]? = some fn) (hb : fn.body = some c) (hname : (fn.name == "runtime.NumGoroutine") = false)
    (env : Env P) (fuel : Nat) {L : Loops P env.Y} (hL : L.fit c) {cp : Cap} {ms ss rs : List Sh} (hms : Sh.flats ms = true) (hy : ∀ Γ, env.Y Γ := by exact fun _ => True.intro) : InActs P f cp ms ss rs (codeLawR P env fuel L fn c cp ms ss rs) := by
  intro m x m' y hxy
  unfold codeLawR at hxy
  obtain ⟨e, t1, h1, hk, hn1, hg⟩ := codeK_ok hm fuel L [] (.code c) _ _ _ c hL (.inr rfl) (Nat.le_refl 2) hxy
  unfold outI at hk
  split at hk
  case h_2 => cases hk
  rename_i hex
  split at hk
  case h_2 => cases hk
  rename_i vs hvs
  split at hk
  case h_2 => cases hk
  rename_i y' hdec
  split at hk
  case h_2 => cases hk
  rename_i n cp' cs hget
  split at hk
  case h_2 => cases hk
  rename_i hcap
  split at hk
  case h_2 => cases hk
  rename_i m2 hdm
  obtain ⟨hn, hk⟩ := ifK_some hk
  injection hk with hk; injection hk with hk1 hk2; subst hk1; subst hk2
  have hcap := capEq_ok hcap
  have hn : n = m.1.length := by simpa using hn
  subst hcap; subst hn
  refine ⟨rfl, fun ρ w cargs hsim hargs => ?_⟩
  obtain ⟨hfy, hvy⟩ := decs_ok rs vs y' [] hdec
  obtain ⟨hfm, hcm⟩ := decs_ok ms cs m2 [] hdm
  rw [List.append_nil] at hvy hcm
  unfold Invokes
  have hcall : (callFunc f cargs).run P w = .ok (.enter f cargs) w := by
    simp only [callFunc, program, Sem.run_bind, Sem.run, Result.andThen, hf]
    simp only [hname, hb, Option.isNone_some, Bool.false_eq_true, if_false]
    rfl
  rw [hcall]
  simp only
  have hlen := hargs.length
  simp only [List.length_cons, List.length_map] at hlen
  have hro : ∀ b blk, Heap.get [rdB m.1] b = .live blk → blk.rw = false := fun b blk hb => by
    cases b with
    | zero => simp [Heap.get, rdB] at hb; rw [← hb]
    | succ b => simp [Heap.get] at hb
  have hI : Inv ⟨[rdB m.1].length + 1, ρ, [rdB m.1] ++ [cEnt (rdC cp' ms m)], w⟩ ρ ([rdB m.1] ++ [cEnt (rdC cp' ms m)]) w := by
    refine ⟨hsim, fun _ _ => rfl, rfl, rfl, rfl, rfl, Nat.le_refl _, fun _ _ _ => rfl, fun b blk d hb hd hrw hs => ?_⟩
    refine .inr ⟨b, blk, d, ?_, hb, hrw, hd, hs, rfl⟩
    rw [get_snoc] at hb
    show b < _ + 1
    split at hb
    · omega
    · split at hb
      · omega
      · cases hb
  have hV : VRs ρ (.ptr 1 0 :: (Sh.encs ss x).map .val ++ List.replicate (fn.ntmps - ((Sh.encs ss x).length + 1)) (.val undef)) ({ tmps := cargs ++ Array.replicate (fn.ntmps - cargs.size) undef, defers := [] } : Act).tmps.toList := by
    simp only [Array.toList_append, Array.toList_replicate]
    refine hargs.append ?_
    rw [hlen]
    simpa using VRs.replicate (ρ := ρ) (a := .val undef) (v := undef) (by simp [VR]) (fn.ntmps - cargs.size)
  refine calls_of_runs hf hb hg hex rfl (hy _) hI hV fun ρ2 w2 a2 g2 g3 => ?_
  obtain ⟨us, cv, k1, k2, k3⟩ := run_results_list (P := P) g2 g3 hvs
  have hout : VR ρ (resV ((Sh.encs rs y').map .val)) cv := by
    refine k3 ρ _ ?_
    rw [hvy] at k2
    rw [VRs_vals _ _ k2]
    exact VRs.vals _
  have hset := settleG (es := [rdB m.1]) (cs' := rdC cp' ms (m.1, m2)) (by simp [rdC, encs_length ms m.2 hms, encs_length ms m2 hms]) (rdC_ok _ _ _) hsim hro g2 (by
    show h1.get 1 = _
    rw [hget, hcm]; rfl)
  exact ⟨cv, k1, ρ, cv, rfl, hout, hset⟩
theorem InActs.to {P : Program} {f : FuncId} {cp : Cap} {ms ss rs : List Sh} {law law' : RdT ms → Sh.Ts ss → Option (RdT ms × Sh.Ts rs)} (h : InActs P f cp ms ss rs law) (he : ∀ m x, law m x = law' m x) : InActs P f cp ms ss rs law' := fun m x m' y hxy => h m x m' y (by rw [he]; exact hxy)
def inActsS {P : Program} {β : Type} (cp : Cap) (ms ss rs : List Sh) (law : RdT ms → Sh.Ts ss → Option (RdT ms × Sh.Ts rs)) (H : Nat → Ent) (new : Nat) (args : List AV) (K : Eff → Option β) : Option β :=
  match args with
  | .ptr b 0 :: rest => (match H b with
    | .live { cells := .lit (.slc bL 0 n cp' :: cs), rw := true, grow := none } => (match H bL with
      | .live { cells := .arr (.int .u8) l, .. } => (match Sh.decs ms cs, Sh.decs ss rest with
        | some (m, []), some (x, []) => (match capEq cp' cp && (!(b == bL) && (decide (b < new) && decide (bL < new))) with
            | true => ifK (decide (n = l.length)) ((law (l, m) x).bind fun r => K { rb := [bL, b], wb := [(b, cEnt (.slc bL 0 n cp' :: (Sh.encs ms r.1.2).map .val))], val := resV ((Sh.encs rs r.2).map .val) })
            | false => none)
        | _, _ => none)
      | _ => none)
    | _ => none)
  | _ => none
theorem renL_vals (σ : List (Nat × Nat)) (n new : Nat) : ∀ l : List Value, renL σ n new (l.map .val) = l.map .val
  | [] => rfl
  | v :: l => by simp [renL, renA, renL_vals σ n new l]
theorem renA_resV (σ : List (Nat × Nat)) (n new : Nat) (l : List Value) : renA σ n new (resV (l.map .val)) = resV (l.map .val) := by
  unfold resV
  match l with
  | [] => simp [renA, renL]
  | [v] => simp [renA]
  | a :: b :: l => simp [renA, renL, renL_vals]
theorem okA_resV (n : Nat) (l : List Value) : okA n (resV (l.map .val)) = true := by
  unfold resV
  match l with
  | [] => simp [okA, okL]
  | [v] => simp [okA]
  | a :: b :: l => simp [okA, okL, okL_vals]
def InActs.summ {P : Program} {f : FuncId} {cp : Cap} {ms ss rs : List Sh} {law : RdT ms → Sh.Ts ss → Option (RdT ms × Sh.Ts rs)} (hr : InActs P f cp ms ss rs law) : Summ P where
  f := f
  S := fun H new args K => inActsS (P := P) cp ms ss rs law H new args K
  ok := by
    intro β H new args K r hs
    unfold inActsS at hs
    split at hs
    case h_2 => cases hs
    rename_i b rest
    split at hs
    case h_2 => cases hs
    rename_i bL n cp' cs hHb
    split at hs
    case h_2 => cases hs
    rename_i l rw0 g0 hHL
    split at hs
    case h_2 => cases hs
    rename_i m x hdm hdx
    split at hs
    case h_2 => cases hs
    rename_i hcond
    simp only [Bool.and_eq_true, Bool.not_eq_true', beq_eq_false_iff_ne, decide_eq_true_eq] at hcond
    obtain ⟨hcap, hne, hbn, hLn⟩ := hcond
    have hcap := capEq_ok hcap
    subst hcap
    obtain ⟨hn, hs⟩ := ifK_some hs
    have hn : n = l.length := by simpa using hn
    subst hn
    rw [Option.bind_eq_some_iff] at hs
    obtain ⟨⟨m', y⟩, hy, hs⟩ := hs
    obtain ⟨hm1, hdoes⟩ := hr _ _ _ _ hy
    refine ⟨_, hs, fun Γ ρ h w cargs hI hargs hH hn hfree => ?_⟩
    obtain ⟨_, hcs⟩ := decs_ok ms cs m [] hdm
    obtain ⟨_, hrest⟩ := decs_ok ss rest x [] hdx
    rw [List.append_nil] at hcs hrest
    let c : CallR P := CallR.mk' [(bL, 0), (b, 0)] hdoes
    have hm1 : m'.1 = l := hm1
    have key := callR_ok (c := c) hI (args := .ptr b 0 :: rest) (cargs := cargs) (H := H) (new := new) hargs ?_ rfl (Nat.le_refl _) ?_ ?_ ?_ (fb := ([.blk ⟨.arr (.int .u8) l, false, none⟩ ⟨.arr (.int .u8) l, false, none⟩, .blk ⟨.lit (.slc bL 0 l.length cp' :: cs), true, none⟩ ⟨.lit (.slc bL 0 l.length cp' :: cs), true, none⟩], [(b, cEnt (.slc bL 0 l.length cp' :: (Sh.encs ms m'.2).map .val))])) (nb := []) ?_ rfl ?_ ?_ hn ?_
    · have e1 : renA c.σ c.h.length new c.v = resV ((Sh.encs rs y).map .val) := renA_resV _ _ _ _
      rw [e1] at key
      simp only [List.append_nil] at key
      exact key
    · show adapts (renL [(bL, 0), (b, 0)] 2 new (.ptr 1 0 :: (Sh.encs ss x).map .val)) (.ptr b 0 :: rest) = renL [(bL, 0), (b, 0)] 2 new (.ptr 1 0 :: (Sh.encs ss x).map .val)
      have e : renL [(bL, 0), (b, 0)] 2 new (.ptr 1 0 :: (Sh.encs ss x).map .val) = .ptr b 0 :: rest := by
        simp only [renL, renA, renL_vals]
        rw [hrest]; rfl
      rw [e, adapts_self]
    · show apartσ [(bL, 0), (b, 0)] [rdB l, cEnt _] = true
      simp [apartσ, rdB, cEnt, hne]
    · show ([(bL, 0), (b, 0)] : List (Nat × Nat)).all _ = true
      simp [hbn, hLn]
    · show (okL 2 (.ptr 1 0 :: (Sh.encs ss x).map .val) && okEnts 2 [rdB l, cEnt (rdC cp' ms (l, m))] && okEnts 2 [rdB l, cEnt (rdC cp' ms m')] && okA 2 (resV ((Sh.encs rs y).map .val))) = true
      simp only [okL, okA, okL_vals, okEnts, rdB, cEnt, okCells, rdC_ok, okA_resV, Bool.and_true, Bool.true_and, decide_eq_true_eq]
      omega
    · show footBlocks H [(bL, 0), (b, 0)] 2 new [(bL, 0), (b, 0)] [rdB l, cEnt (rdC cp' ms (l, m))] [rdB l, cEnt (rdC cp' ms m')] = _
      have e1 : renBlk [(bL, 0), (b, 0)] 2 new ⟨.lit (rdC cp' ms (l, m)), true, none⟩ = ⟨.lit (.slc bL 0 l.length cp' :: cs), true, none⟩ := by
        simp only [renBlk, renCells, rdC, renL, renA, renL_vals, hcs]
        rfl
      have e2 : renBlk [(bL, 0), (b, 0)] 2 new ⟨.lit (rdC cp' ms m'), true, none⟩ = ⟨.lit (.slc bL 0 l.length cp' :: (Sh.encs ms m'.2).map .val), true, none⟩ := by
        simp only [renBlk, renCells, rdC, renL, renA, renL_vals, hm1]
        rfl
      simp only [footBlocks, rdB, cEnt, hHL, hHb, roMatch, if_true, Bool.false_eq_true, if_false, Option.map_some, e1, e2]
    · intro p hp
      simp only [List.mem_cons, List.not_mem_nil, or_false] at hp
      rcases hp with rfl | rfl <;> rfl
    · intro b' hb'
      exact hH b' hb'
    · intro z h1 h2
      have : c.h'.length - c.h.length = 0 := by show 2 - 2 = 0; rfl
      omega
end Go.Ab
namespace Go.Ab
mutual
def Sh.fits (P : Program) : Sh → TypeId → Bool
  | .int k, t => decide (P.cellsOf t = 1) && (match P.underlying t with
    | some (.int k') => decide (k' = k)
    | _ => false)
  | .bool, t => decide (P.cellsOf t = 1) && (match P.underlying t with
    | some .bool => true
    | _ => false)
  | .str, t => decide (P.cellsOf t = 1) && (match P.underlying t with
    | some .string => true
    | _ => false)
  | .st l, t => decide (P.cellsOf t = Sh.ws l) && (match P.underlying t with
    | some (.struct fs) => Sh.fitsF P l fs.toList 0
    | some (.array n e) => decide (l.length = n) && Sh.fitsE P l e
    | _ => false)
  | .sl e, t => decide (P.cellsOf t = 1) && (match P.underlying t with
    | some (.slice el) => Sh.flat e && Sh.fits P e el && decide (0 < Sh.w e)
    | _ => false)
  | .rows e, t => decide (P.cellsOf t = 1) && (match P.underlying t with
    | some (.slice el) => decide (P.cellsOf el = 1) && (match P.underlying el with
      | some (.slice el2) => Sh.flat e && Sh.fits P e el2 && decide (Sh.w e = 1)
      | _ => false)
    | _ => false)
def Sh.fitsF (P : Program) : List Sh → List Field → Nat → Bool
  | [], [], _ => true
  | s :: l, f :: fs, o => decide (f.offset = o) && Sh.fits P s f.type && Sh.fitsF P l fs (o + Sh.w s)
  | _, _, _ => false
def Sh.fitsE (P : Program) : List Sh → TypeId → Bool
  | [], _ => true
  | s :: l, e => Sh.fits P s e && Sh.fitsE P l e
end
theorem fits_cells {P : Program} {s : Sh} {t : TypeId} (h : s.fits P t = true) : P.cellsOf t = s.w := by
  cases s <;> simp only [Sh.fits, Bool.and_eq_true, decide_eq_true_eq] at h <;> simp [Sh.w, h.1]
theorem wf_range {k : IntKind} {n : Int} (h : (Lit.int k n).wf = true) : k.min ≤ n ∧ n ≤ k.max := by
  simpa [Lit.wf] using h
section
variable {H : Type} {enc : TypeId × Value → H} {P : Program} {W : World} {sp : Nat → Bool}
mutual
theorem flat_open : ∀ (s : Sh) (fuel : Nat) (t : TypeId) (cs : List Value) (x : DataW H × List MemPlace), s.flat = true → s.fits P t = true → DataW.trod enc P W 0 sp true fuel t cs = some x → ∃ y : s.T, s.ok y ∧ cs = s.enc y
  | .int k, fuel, t, cs, x, _, hf, h => by
    simp only [Sh.fits, Bool.and_eq_true] at hf
    have hf := hf.2
    split at hf
    · rename_i k' hu
      have hk : k' = k := by simpa using hf
      subst hk
      obtain ⟨n, h1, _, h3⟩ := DataW.trod_int hu h
      exact ⟨n, by simp only [Sh.ok]; exact wf_range h3, h1⟩
    · cases hf
  | .bool, fuel, t, cs, x, _, hf, h => by
    simp only [Sh.fits, Bool.and_eq_true] at hf
    have hf := hf.2
    split at hf
    · rename_i hu
      obtain ⟨b, h1, _⟩ := DataW.trod_bool hu h
      exact ⟨b, by simp [Sh.ok], h1⟩
    · cases hf
  | .str, fuel, t, cs, x, _, hf, h => by
    simp only [Sh.fits, Bool.and_eq_true] at hf
    have hf := hf.2
    split at hf
    · rename_i hu
      obtain ⟨b, h1, _, h2⟩ := DataW.trod_string hu h
      exact ⟨b, by simp only [Sh.ok]; simpa [maxLen] using h2, h1⟩
    · cases hf
  | .st l, fuel, t, cs, x, hfl, hf, h => by
    simp only [Sh.fits, Bool.and_eq_true, decide_eq_true_eq] at hf
    obtain ⟨hw, hf⟩ := hf
    simp only [Sh.flat] at hfl
    split at hf
    · rename_i fs hu
      obtain ⟨xs, n, _, _, hlen, hxl, hat⟩ := DataW.trod_struct hu h
      obtain ⟨y, h1, h2⟩ := flat_fields l fs.toList 0 n cs xs hfl hf (by simpa using hxl) (fun i f hi => hat i f (by simpa using hi)) (by rw [hlen, hw]; simp)
      exact ⟨y, by simpa [Sh.ok] using h1, by simpa [Sh.enc] using h2⟩
    · rename_i n e hu
      simp only [Bool.and_eq_true, decide_eq_true_eq] at hf
      obtain ⟨xs, m, _, _, hlen, hxl, hat⟩ := DataW.trod_array hu h
      obtain ⟨y, h1, h2⟩ := flat_elems l e 0 m cs xs hfl hf.2 (fun i hi => by
        have := hat i (by omega)
        rw [Nat.zero_add]; exact this) (by omega) (by rw [hlen, hw]; simp)
      exact ⟨y, by simpa [Sh.ok] using h1, by simpa [Sh.enc] using h2⟩
    · cases hf
  | .sl _, _, _, _, _, h, _, _ => by simp [Sh.flat] at h
  | .rows _, _, _, _, _, h, _, _ => by simp [Sh.flat] at h
theorem flat_fields : ∀ (l : List Sh) (fs : List Field) (o n : Nat) (cs : List Value) (xs : List (DataW H × List MemPlace)), Sh.flats l = true → Sh.fitsF P l fs o = true → xs.length = fs.length →
    (∀ (i : Nat) (f : Field), fs[i]? = some f → DataW.trod enc P W 0 sp true n f.type ((cs.drop f.offset).take (P.cellsOf f.type)) = xs[i]?) → cs.length = o + Sh.ws l → ∃ y : Sh.Ts l, Sh.oks l y ∧ cs.drop o = Sh.encs l y
  | [], [], o, n, cs, xs, _, _, _, _, hl => ⟨(), by simp [Sh.oks], by simp [Sh.encs, Sh.ws] at hl ⊢; omega⟩
  | [], _ :: _, o, n, cs, xs, _, hf, _, _, _ => by simp [Sh.fitsF] at hf
  | _ :: _, [], o, n, cs, xs, _, hf, _, _, _ => by simp [Sh.fitsF] at hf
  | s :: l, f :: fs, o, n, cs, xs, hfl, hf, hx, hat, hl => by
    simp only [Sh.flats, Bool.and_eq_true] at hfl
    simp only [Sh.fitsF, Bool.and_eq_true, decide_eq_true_eq] at hf
    obtain ⟨⟨ho, hfs⟩, hfr⟩ := hf
    cases xs with
    | nil => simp at hx
    | cons x xs =>
      have h0 := hat 0 f rfl
      rw [ho, fits_cells hfs] at h0
      obtain ⟨y, h1, h2⟩ := flat_open s n f.type _ x hfl.1 hfs h0
      obtain ⟨ys, h3, h4⟩ := flat_fields l fs (o + s.w) n cs xs hfl.2 hfr (by simpa using hx) (fun i g hi => by simpa using hat (i + 1) g (by simpa using hi)) (by simp only [Sh.ws] at hl; omega)
      refine ⟨(y, ys), by simp only [Sh.oks]; exact ⟨h1, h3⟩, ?_⟩
      simp only [Sh.encs]
      rw [← h2, ← h4, ← List.drop_drop, List.take_append_drop]
theorem flat_elems : ∀ (l : List Sh) (e : TypeId) (k n : Nat) (cs : List Value) (xs : List (DataW H × List MemPlace)), Sh.flats l = true → Sh.fitsE P l e = true →
    (∀ (i : Nat), i < l.length → DataW.trod enc P W 0 sp true n e ((cs.drop ((k + i) * P.cellsOf e)).take (P.cellsOf e)) = xs[k + i]?) → k + l.length ≤ xs.length → cs.length = k * P.cellsOf e + Sh.ws l → ∃ y : Sh.Ts l, Sh.oks l y ∧ cs.drop (k * P.cellsOf e) = Sh.encs l y
  | [], e, k, n, cs, xs, _, _, _, _, hl => ⟨(), by simp [Sh.oks], by simp [Sh.encs, Sh.ws] at hl ⊢; omega⟩
  | s :: l, e, k, n, cs, xs, hfl, hf, hat, hx, hl => by
    simp only [Sh.flats, Bool.and_eq_true] at hfl
    simp only [Sh.fitsE, Bool.and_eq_true] at hf
    have hc := fits_cells hf.1
    have h0 := hat 0 (by simp)
    simp only [Nat.add_zero] at h0
    simp only [List.length_cons] at hx
    obtain ⟨x, hx0⟩ : ∃ x, xs[k]? = some x := ⟨xs[k]'(by omega), List.getElem?_eq_getElem _⟩
    rw [hx0] at h0
    obtain ⟨y, h1, h2⟩ := flat_open s n e _ x hfl.1 hf.1 h0
    obtain ⟨ys, h3, h4⟩ := flat_elems l e (k + 1) n cs xs hfl.2 hf.2 (fun i hi => by
      have := hat (i + 1) (by simpa using hi)
      rw [show k + (i + 1) = k + 1 + i by omega] at this; exact this) (by omega) (by simp only [Sh.ws] at hl; rw [Nat.add_mul, hl, hc]; omega)
    refine ⟨(y, ys), by simp only [Sh.oks]; exact ⟨h1, h3⟩, ?_⟩
    simp only [Sh.encs]
    rw [← h2, ← h4, Nat.add_mul, Nat.one_mul, ← List.drop_drop, List.take_append_drop]
end
theorem cells?_spec {a : Addr} {n : Nat} {cs : List Value} (h : W.cells? 0 a n = some cs) : cs.length = n ∧ ∀ (j : Nat) (v : Value), cs[j]? = some v → W.cell? (a.add j) = some v := by
  simp only [World.cells?, Nat.zero_le, if_true] at h
  have key : ∀ (l : List Nat) (cs : List Value), (l.mapM fun i => W.cell? (a.add i)) = some cs → cs.length = l.length ∧ ∀ (j : Nat) (v : Value), cs[j]? = some v → ∃ i, l[j]? = some i ∧ W.cell? (a.add i) = some v := by
    intro l
    induction l with
    | nil => intro cs h; simp at h; subst h; exact ⟨rfl, fun j v hj => by simp at hj⟩
    | cons i l ih =>
      intro cs h
      simp only [List.mapM_cons, Option.bind_eq_bind, Option.bind_eq_some_iff] at h
      obtain ⟨v0, h0, cs', h1, h2⟩ := h
      simp at h2; subst h2
      obtain ⟨i1, i2⟩ := ih cs' h1
      refine ⟨by simp [i1], fun j v hj => ?_⟩
      cases j with
      | zero => simp at hj; subst hj; exact ⟨i, rfl, h0⟩
      | succ j => simpa using i2 j v (by simpa using hj)
  obtain ⟨h1, h2⟩ := key _ cs h
  refine ⟨by simpa using h1, fun j v hj => ?_⟩
  obtain ⟨i, h3, h4⟩ := h2 j v hj
  have : i = j := by
    rw [List.getElem?_eq_some_iff] at h3
    obtain ⟨h5, h6⟩ := h3
    simpa using h6.symm
  rw [← this]; exact h4
theorem getElem?_flatMap_block {α : Type} (f : α → List Value) (w : Nat) (hw : 0 < w) : ∀ (l : List α), (∀ y ∈ l, (f y).length = w) → ∀ (j : Nat), (l.flatMap f)[j]? = (l[j / w]?).bind fun y => (f y)[j % w]?
  | [], _, j => by simp
  | y :: l, h, j => by
    have hy := h y (List.mem_cons_self ..)
    rw [List.flatMap_cons]
    by_cases hj : j < w
    · rw [List.getElem?_append_left (by omega), Nat.div_eq_of_lt hj, Nat.mod_eq_of_lt hj]; simp
    · rw [List.getElem?_append_right (by omega), hy, getElem?_flatMap_block f w hw l (fun z hz => h z (List.mem_cons_of_mem _ hz))]
      have e1 : j / w = (j - w) / w + 1 := by
        rw [Nat.div_eq_sub_div hw (by omega)]
      have e2 : j % w = (j - w) % w := by
        rw [Nat.mod_eq_sub_mod (by omega)]
      rw [e1, e2]; simp
theorem slice_open {e : Sh} {el : TypeId} {n : Nat} {a : Addr} {len : Nat} {elems : List (DataW H × List MemPlace)} (hfl : e.flat = true) (hf : e.fits P el = true) (hw : 0 < e.w) (hlen : elems.length = len)
    (hat : ∀ i, i < len → (W.cells? 0 (a.add (i * P.cellsOf el)) (P.cellsOf el)).bind (DataW.trod enc P W 0 sp true n el) = elems[i]?) :
    ∃ y : List e.T, y.length = len ∧ (∀ z ∈ y, e.ok z) ∧ ∀ (j : Nat) (v : Value), (y.flatMap e.enc)[j]? = some v → W.cell? (a.add j) = some v := by
  have hc := fits_cells hf
  have key : ∀ k, k ≤ len → ∃ y : List e.T, y.length = k ∧ (∀ z ∈ y, e.ok z) ∧ ∀ (i : Nat) (z : e.T), y[i]? = some z → ∀ (j : Nat) (v : Value), (e.enc z)[j]? = some v → W.cell? (a.add (i * e.w + j)) = some v := by
    intro k
    induction k with
    | zero => intro _; exact ⟨[], rfl, by simp, by simp⟩
    | succ k ih =>
      intro hk
      obtain ⟨y, h1, h2, h3⟩ := ih (by omega)
      have h4 := hat k (by omega)
      obtain ⟨x, hx⟩ : ∃ x, elems[k]? = some x := ⟨elems[k]'(by omega), List.getElem?_eq_getElem _⟩
      rw [hx, Option.bind_eq_some_iff] at h4
      obtain ⟨cs, h5, h6⟩ := h4
      obtain ⟨z, h7, h8⟩ := flat_open e n el cs x hfl hf h6
      obtain ⟨h9, h10⟩ := cells?_spec h5
      refine ⟨y ++ [z], by simp [h1], fun u hu => ?_, fun i u hi j v hj => ?_⟩
      · rcases List.mem_append.1 hu with hu | hu
        · exact h2 u hu
        · simp at hu; subst hu; exact h7
      · by_cases hik : i < k
        · rw [List.getElem?_append_left (by omega)] at hi
          exact h3 i u hi j v hj
        · rw [List.getElem?_append_right (by omega)] at hi
          have : i = k := by
            rcases Nat.lt_or_ge i (k + 1) with h' | h'
            · omega
            · rw [List.getElem?_eq_none (by simp; omega)] at hi; cases hi
          subst this
          simp [h1] at hi; subst hi
          have := h10 j v (by rw [h8]; exact hj)
          rw [hc] at this
          rw [← this]
          congr 1
          unfold Addr.add
          by_cases q1 : i * e.w = 0
          · simp [q1]
          · by_cases q2 : j = 0
            · simp [q2, q1]
            · rw [if_neg (by omega), if_neg q1, if_neg q2]; simp [Nat.add_assoc]
  obtain ⟨y, h1, h2, h3⟩ := key len (Nat.le_refl _)
  refine ⟨y, h1, h2, fun j v hj => ?_⟩
  rw [getElem?_flatMap_block e.enc e.w hw y (fun z _ => enc_length e z hfl), Option.bind_eq_some_iff] at hj
  obtain ⟨z, h4, h5⟩ := hj
  have := h3 (j / e.w) z h4 (j % e.w) v h5
  rw [show j / e.w * e.w + j % e.w = j from Nat.div_add_mod' j e.w] at this
  exact this
theorem spot_none {a : Addr} {v : Value} {j : Nat} (h : W.cell? (a.add j) = some v) : j = 0 → a.spot = none := by
  intro hj; subst hj
  simp only [Addr.add, if_true, World.cell?] at h
  split at h
  · split at h
    · cases h
    · rename_i hs; simpa using hs
  · cases h
def Opens (P : Program) (W : World) (s : Sh) (cs : List Value) : Prop :=
  ∃ y : s.T, s.ok y ∧ ∃ c : List (Nat × Nat × Nat), c.length = s.ne ∧ ∀ (ρ : Ren) (next : Nat), ρ.base = W → (∀ (i : Nat) (d : Nat × Nat × Nat), c[i]? = some d → ρ (next + i) = some d) →
    VRs ρ (s.cells y next) cs ∧ ∀ (i : Nat) (blk : Blk), (s.ents y)[i]? = some (.live blk) → ∃ d : Nat × Nat × Nat, c[i]? = some d ∧ CellsAt ρ W d.1 d.2.1 blk.cells
def OpensL (P : Program) (W : World) (l : List Sh) (cs : List Value) : Prop :=
  ∃ y : Sh.Ts l, Sh.oks l y ∧ ∃ c : List (Nat × Nat × Nat), c.length = Sh.nes l ∧ ∀ (ρ : Ren) (next : Nat), ρ.base = W → (∀ (i : Nat) (d : Nat × Nat × Nat), c[i]? = some d → ρ (next + i) = some d) →
    VRs ρ (Sh.cellss l y next) cs ∧ ∀ (i : Nat) (blk : Blk), (Sh.entss l y)[i]? = some (.live blk) → ∃ d : Nat × Nat × Nat, c[i]? = some d ∧ CellsAt ρ W d.1 d.2.1 blk.cells
theorem OpensL.nil : OpensL P W [] [] := ⟨(), by simp [Sh.oks], [], rfl, fun ρ next _ _ => ⟨by simp [Sh.cellss, VRs], fun i blk h => by simp [Sh.entss] at h⟩⟩
theorem OpensL.cons {s : Sh} {l : List Sh} {c1 c2 : List Value} (h1 : Opens P W s c1) (h2 : OpensL P W l c2) : OpensL P W (s :: l) (c1 ++ c2) := by
  obtain ⟨y, o1, d1, l1, f1⟩ := h1
  obtain ⟨z, o2, d2, l2, f2⟩ := h2
  refine ⟨(y, z), by simp only [Sh.oks]; exact ⟨o1, o2⟩, d1 ++ d2, by simp [Sh.nes, l1, l2], fun ρ next hb hρ => ?_⟩
  obtain ⟨a1, a2⟩ := f1 ρ next hb fun i d hi => hρ i d (by rw [List.getElem?_append_left]; exact hi; exact (List.getElem?_eq_some_iff.1 hi).1)
  obtain ⟨b1, b2⟩ := f2 ρ (next + s.ne) hb fun i d hi => by
    have := hρ (s.ne + i) d (by rw [List.getElem?_append_right (by omega), l1, Nat.add_sub_cancel_left]; exact hi)
    rw [Nat.add_assoc]; exact this
  refine ⟨by simp only [Sh.cellss]; exact a1.append b1, fun i blk hi => ?_⟩
  simp only [Sh.entss] at hi
  have el := ents_length s y
  by_cases hil : i < s.ne
  · rw [List.getElem?_append_left (by omega)] at hi
    obtain ⟨d, h3, h4⟩ := a2 i blk hi
    exact ⟨d, by rw [List.getElem?_append_left (by omega)]; exact h3, h4⟩
  · rw [List.getElem?_append_right (by omega), el] at hi
    obtain ⟨d, h3, h4⟩ := b2 (i - s.ne) blk hi
    exact ⟨d, by rw [List.getElem?_append_right (by omega), l1]; exact h3, h4⟩
end
end Go.Ab
