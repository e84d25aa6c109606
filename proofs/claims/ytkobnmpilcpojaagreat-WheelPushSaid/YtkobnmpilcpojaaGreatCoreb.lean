/- An engine that names no program: what code does to what memory shows, evaluated over abstract values and an abstract heap, and that it is so. -/
import Derived.Test.YtkobnmpilcpojaaGreatCorea
import Derived.Laws.AppendOwn
import Derived.Laws.BitsLemmas
set_option linter.unusedVariables false
set_option linter.unusedSimpArgs false
namespace Go.Ab
def lastW : List (Nat × Ent) → Nat → Option Ent
  | [], _ => none
  | (b, e) :: l, x => (lastW l x).or (if x = b then some e else none)
theorem get_upds' : ∀ (wb : List (Nat × Ent)) (h : Heap) (x : Nat), (h.upds wb).get x = (lastW wb x).getD (h.get x)
  | [], h, x => rfl
  | (b, e) :: wb, h, x => by
    simp only [Heap.upds, lastW]
    rw [get_upds' wb, Heap.get_upd]
    cases lastW wb x with
    | some e' => simp
    | none =>
      by_cases hx : x = b
      · simp [hx]
      · simp [hx]
def Did.writes (d : Did) (x : Nat) : Prop := lastW d.wb x ≠ none
def foldT (S : Nat → Bool) : Nat → List Did → List AV → List AV
  | _, [], t => t
  | i, d :: l, t => foldT S (i + 1) l (if S i = true then d.t t else t)
def foldH (S : Nat → Bool) : Nat → List Did → Heap → Heap
  | _, [], h => h
  | i, d :: l, h => foldH S (i + 1) l (if S i = true then d.h h else h)
theorem putT_length (t : List AV) (d : Option Nat) (v : AV) : (putT t d v).length = t.length := by cases d <;> simp [putT]
theorem foldT_length (S : Nat → Bool) : ∀ (l : List Did) (i : Nat) (t : List AV), (foldT S i l t).length = t.length
  | [], i, t => rfl
  | d :: l, i, t => by
    simp only [foldT]
    rw [foldT_length S l]
    split
    · exact putT_length ..
    · rfl
theorem putT_get (t : List AV) (d : Option Nat) (v : AV) (s : Nat) (h : d ≠ some s) : (putT t d v)[s]? = t[s]? := by
  cases d with
  | none => rfl
  | some d => simp only [putT]; rw [List.getElem?_set_ne (fun e => h (by rw [e]))]
theorem foldT_agree (S S' : Nat → Bool) (s : Nat) : ∀ (l : List Did) (i : Nat) (t t' : List AV), t.length = t'.length → t[s]? = t'[s]? → (∀ k d, l[k]? = some d → S (i + k) ≠ S' (i + k) → d.ws ≠ some s) → (foldT S i l t)[s]? = (foldT S' i l t')[s]?
  | [], i, t, t', _, h, _ => h
  | d :: l, i, t, t', hl, h, hd => by
    simp only [foldT]
    refine foldT_agree S S' s l (i + 1) _ _ ?_ ?_ (fun k d' hk hne => hd (k + 1) d' (by simpa using hk) (by rw [show i + (k + 1) = i + 1 + k by omega]; exact hne))
    · split <;> split <;> simp [Did.t, putT_length, hl]
    · have h0 := hd 0 d rfl
      simp only [Nat.add_zero] at h0
      by_cases hw : d.ws = some s
      · by_cases hS : S i = S' i
        · rw [hS]
          split
          · simp only [Did.t, hw, putT]
            by_cases hlt : s < t.length
            · rw [List.getElem?_set_self hlt, List.getElem?_set_self (by omega)]
            · rw [List.getElem?_eq_none (by simp; omega), List.getElem?_eq_none (by simp; omega)]
          · exact h
        · exact absurd hw (h0 hS)
      · have e : ∀ (u : List AV), (d.t u)[s]? = u[s]? := fun u => putT_get u d.ws d.val s hw
        split <;> split <;> simp only [e, h]
theorem foldH_agree (S S' : Nat → Bool) (x : Nat) : ∀ (l : List Did) (i : Nat) (h h' : Heap), h.get x = h'.get x → (∀ k d, l[k]? = some d → S (i + k) ≠ S' (i + k) → ¬ d.writes x) → (foldH S i l h).get x = (foldH S' i l h').get x
  | [], i, h, h', he, _ => he
  | d :: l, i, h, h', he, hd => by
    simp only [foldH]
    refine foldH_agree S S' x l (i + 1) _ _ ?_ (fun k d' hk hne => hd (k + 1) d' (by simpa using hk) (by rw [show i + (k + 1) = i + 1 + k by omega]; exact hne))
    have h0 := hd 0 d rfl
    simp only [Nat.add_zero] at h0
    by_cases hw : d.writes x
    · by_cases hS : S i = S' i
      · rw [hS]
        split
        · simp only [Did.h, get_upds', he]
        · exact he
      · exact absurd hw (h0 hS)
    · have e : ∀ (u : Heap), (d.h u).get x = u.get x := fun u => by
        simp only [Did.h, get_upds']
        unfold Did.writes at hw
        simp only [ne_eq, Decidable.not_not] at hw
        rw [hw]; rfl
      split <;> split <;> simp only [e, he]
theorem foldT_last (S : Nat → Bool) (s : Nat) (d : Did) (hw : d.ws = some s) : ∀ (l : List Did) (i j : Nat) (t : List AV), l[j]? = some d → S (i + j) = true → (∀ k d', j < k → l[k]? = some d' → S (i + k) = true → d'.ws ≠ some s) → s < t.length → (foldT S i l t)[s]? = some d.val
  | [], i, j, t, h, _, _, _ => by simp at h
  | d0 :: l, i, 0, t, h, hS, hn, hlt => by
    simp at h; subst h
    simp only [Nat.add_zero] at hS
    simp only [foldT, hS, if_true]
    have := foldT_agree S (fun _ => false) s l (i + 1) (d0.t t) (d0.t t) rfl rfl (fun k d' hk hne => hn (k + 1) d' (by omega) (by simpa using hk) (by rw [show i + (k + 1) = i + 1 + k by omega]; simpa using hne))
    rw [this]
    have hid : ∀ (l : List Did) (i : Nat) (t : List AV), foldT (fun _ => false) i l t = t := by
      intro l; induction l with
      | nil => intros; rfl
      | cons d l ih => intro i t; simp [foldT, ih]
    rw [hid]
    simp only [Did.t, hw, putT]
    rw [List.getElem?_set_self hlt]
  | d0 :: l, i, j + 1, t, h, hS, hn, hlt => by
    simp only [foldT]
    refine foldT_last S s d hw l (i + 1) j _ (by simpa using h) (by rw [show i + 1 + j = i + (j + 1) by omega]; exact hS) (fun k d' hjk hk hs => hn (k + 1) d' (by omega) (by simpa using hk) (by rw [show i + (k + 1) = i + 1 + k by omega]; exact hs)) ?_
    split
    · simpa [Did.t, putT_length] using hlt
    · exact hlt
theorem foldH_last (S : Nat → Bool) (x : Nat) (d : Did) (e : Ent) (hw : lastW d.wb x = some e) : ∀ (l : List Did) (i j : Nat) (h : Heap), l[j]? = some d → S (i + j) = true → (∀ k d', j < k → l[k]? = some d' → S (i + k) = true → ¬ d'.writes x) → (foldH S i l h).get x = e
  | [], i, j, h, hl, _, _ => by simp at hl
  | d0 :: l, i, 0, h, hl, hS, hn => by
    simp at hl; subst hl
    simp only [Nat.add_zero] at hS
    simp only [foldH, hS, if_true]
    have := foldH_agree S (fun _ => false) x l (i + 1) (d0.h h) (d0.h h) rfl (fun k d' hk hne => hn (k + 1) d' (by omega) (by simpa using hk) (by rw [show i + (k + 1) = i + 1 + k by omega]; simpa using hne))
    rw [this]
    have hid : ∀ (l : List Did) (i : Nat) (h : Heap), foldH (fun _ => false) i l h = h := by
      intro l; induction l with
      | nil => intros; rfl
      | cons d l ih => intro i t; simp [foldH, ih]
    rw [hid]
    simp only [Did.h, get_upds', hw]; rfl
  | d0 :: l, i, j + 1, h, hl, hS, hn => by
    simp only [foldH]
    exact foldH_last S x d e hw l (i + 1) j _ (by simpa using hl) (by rw [show i + 1 + j = i + (j + 1) by omega]; exact hS) (fun k d' hjk hk hs => hn (k + 1) d' (by omega) (by simpa using hk) (by rw [show i + (k + 1) = i + 1 + k by omega]; exact hs))
def maskE (m : Nat) (acc : List Nat) : List Edge → Nat
  | [] => m
  | e :: es => maskE (if Region.binds .any e = true then m ||| (2 ^ e.on) ||| (acc.getD e.on 0) else m) acc es
def masks : List Oper → List Nat → Option (List Nat)
  | [], acc => some acc
  | o :: l, acc => if o.after.toList.all (fun e => !Region.binds .any e || decide (e.on < acc.length)) = true then masks l (acc ++ [maskE 0 acc o.after.toList]) else none
def Did.reads (d : Did) : List Nat := d.rb ++ List.range' d.new d.nw
def noconf (x y : Did) : Bool :=
  (match x.ws with
    | some d => !y.rs.contains d && y.ws != some d
    | none => true) &&
  (match y.ws with
    | some d => !x.rs.contains d
    | none => true) &&
  x.wb.all (fun p => !y.reads.contains p.1 && y.wb.all (fun q => q.1 != p.1)) && y.wb.all (fun p => !x.reads.contains p.1)
def confs (dids : List Did) (ms : List Nat) : Bool :=
  (dids.zip ms).zipIdx.all fun q => (dids.take q.2).zipIdx.all fun p => Nat.testBit q.1.2 p.2 || noconf p.1 q.1.1
theorem maskE_bit (acc : List Nat) (j : Nat) : ∀ (es : List Edge) (m : Nat), (maskE m acc es).testBit j = true → m.testBit j = true ∨ ∃ e ∈ es, Region.binds .any e = true ∧ (e.on = j ∨ (acc.getD e.on 0).testBit j = true)
  | [], m, h => .inl h
  | e :: es, m, h => by
    simp only [maskE] at h
    rcases maskE_bit acc j es _ h with h1 | ⟨e', he', hb, h2⟩
    · split at h1
      · rename_i hb
        simp only [Nat.testBit_or, Bool.or_eq_true, Nat.testBit_two_pow, decide_eq_true_eq] at h1
        rcases h1 with (h1 | h1) | h1
        · exact .inl h1
        · exact .inr ⟨e, List.mem_cons_self .., hb, .inl h1⟩
        · exact .inr ⟨e, List.mem_cons_self .., hb, .inr h1⟩
      · exact .inl h1
    · exact .inr ⟨e', List.mem_cons_of_mem _ he', hb, h2⟩
theorem masks_spec : ∀ (l : List Oper) (acc ms : List Nat), masks l acc = some ms → ms.length = acc.length + l.length ∧ (∀ k, k < acc.length → ms[k]? = acc[k]?) ∧
    (∀ k o, l[k]? = some o → (∀ e ∈ o.after, Region.binds .any e = true → e.on < acc.length + k) ∧ ∀ m, ms[acc.length + k]? = some m → ∀ j, m.testBit j = true → ∃ e ∈ o.after, Region.binds .any e = true ∧ (e.on = j ∨ ∃ m', ms[e.on]? = some m' ∧ m'.testBit j = true))
  | [], acc, ms, h => by
    simp [masks] at h; subst h
    exact ⟨by simp, fun k hk => rfl, fun k o hk => by simp at hk⟩
  | o :: l, acc, ms, h => by
    simp only [masks] at h
    split at h
    · rename_i hall
      obtain ⟨h1, h2, h3⟩ := masks_spec l _ ms h
      simp only [List.length_append, List.length_cons, List.length_nil] at h1 h2 h3
      refine ⟨by simp; omega, fun k hk => ?_, fun k o' hk => ?_⟩
      · rw [h2 k (by omega), List.getElem?_append_left hk]
      · cases k with
        | zero =>
          simp at hk; subst hk
          have hedge : ∀ e ∈ o.after, Region.binds .any e = true → e.on < acc.length + 0 := fun e he hb => by
            have := List.all_eq_true.1 hall e (by simpa using he)
            simp [hb] at this
            omega
          refine ⟨hedge, fun m hm j hj => ?_⟩
          rw [Nat.add_zero, h2 acc.length (by omega)] at hm
          simp at hm; subst hm
          rcases maskE_bit acc j _ 0 hj with h0 | ⟨e, he, hb, h4⟩
          · simp at h0
          · refine ⟨e, by simpa using he, hb, ?_⟩
            rcases h4 with h4 | h4
            · exact .inl h4
            · have hlt := hedge e (by simpa using he) hb
              simp only [Nat.add_zero] at hlt
              refine .inr ⟨acc.getD e.on 0, ?_, h4⟩
              rw [h2 e.on (by omega), List.getElem?_append_left hlt, List.getD_eq_getElem?_getD, List.getElem?_eq_getElem hlt]; rfl
        | succ k =>
          have := h3 k o' (by simpa using hk)
          rw [show acc.length + 1 + k = acc.length + (k + 1) by omega] at this
          exact this
    · cases h
theorem closed_mask {ops : Array Oper} {ms : List Nat} (hm : masks ops.toList [] = some ms) {S : Nat → Bool} (hS : ∀ i o, S i = true → ops[i]? = some o → ∀ e ∈ o.after, Region.binds .any e = true → S e.on = true) :
    ∀ (n i : Nat), i < n → S i = true → ∀ m, ms[i]? = some m → ∀ j, m.testBit j = true → S j = true := by
  obtain ⟨h1, _, h3⟩ := masks_spec _ _ _ hm
  intro n
  induction n with
  | zero => intro i hi; omega
  | succ n ih =>
    intro i hi hSi m hmi j hj
    have hlt : i < ops.size := by
      rcases Nat.lt_or_ge i ms.length with h' | h'
      · simp at h1; omega
      · simp [List.getElem?_eq_none h'] at hmi
    have ho : ops[i]? = some ops[i] := Array.getElem?_eq_getElem hlt
    obtain ⟨h4, h5⟩ := h3 i ops[i] (by simp)
    obtain ⟨e, he, hb, h6⟩ := h5 m (by simpa using hmi) j hj
    have hSe := hS i _ hSi ho e he hb
    have hlt' := h4 e he hb
    simp at hlt'
    rcases h6 with h6 | ⟨m', h7, h8⟩
    · rw [← h6]; exact hSe
    · exact ih e.on (by omega) hSe m' h7 j h8
end Go.Ab
namespace Go.Ab
theorem foldT_none (S : Nat → Bool) : ∀ (l : List Did) (i : Nat) (t : List AV), (∀ j, i ≤ j → S j = false) → foldT S i l t = t
  | [], i, t, _ => rfl
  | d :: l, i, t, h => by simp only [foldT, h i (Nat.le_refl _)]; exact foldT_none S l (i + 1) t fun j hj => h j (by omega)
theorem foldH_none (S : Nat → Bool) : ∀ (l : List Did) (i : Nat) (t : Heap), (∀ j, i ≤ j → S j = false) → foldH S i l t = t
  | [], i, t, _ => rfl
  | d :: l, i, t, h => by simp only [foldH, h i (Nat.le_refl _)]; exact foldH_none S l (i + 1) t fun j hj => h j (by omega)
theorem goodAll_at {P : Program} {Y : Ctx → Prop} {ops : Array Oper} : ∀ (l : List Did) (k : Nat) (t : List AV) (h : Heap), GoodAll P Y ops k t h l →
    endT t l = foldT (fun _ => true) k l t ∧ endH h l = foldH (fun _ => true) k l h ∧
    ∀ i d, l[i]? = some d → Good P Y ops (k + i) (foldT (fun j => decide (j < k + i)) k l t) (foldH (fun j => decide (j < k + i)) k l h) d
  | [], k, t, h, _ => ⟨rfl, rfl, fun i d hi => by simp at hi⟩
  | d0 :: l, k, t, h, hg => by
    obtain ⟨h2, h3, h4⟩ := goodAll_at l (k + 1) _ _ hg.2
    refine ⟨by simpa [foldT, endT] using h2, by simpa [foldH, endH] using h3, fun i d hi => ?_⟩
    cases i with
    | zero =>
      simp at hi; subst hi
      rw [foldT_none _ _ _ _ (by intro j hj; simp; omega), foldH_none _ _ _ _ (by intro j hj; simp; omega)]
      exact hg.1
    | succ i =>
      have h5 := h4 i d (by simpa using hi)
      simp only [foldT, foldH]
      have e : decide (k < k + (i + 1)) = true := by simp
      rw [if_pos e, if_pos e]
      rw [show k + (i + 1) = k + 1 + i by omega]
      exact h5
theorem confs_spec {dids : List Did} {ms : List Nat} (h : confs dids ms = true) {i k m : Nat} {x y : Did} (hk : k < i) (hy : dids[i]? = some y) (hx : dids[k]? = some x) (hm : ms[i]? = some m) : m.testBit k = true ∨ noconf x y = true := by
  unfold confs at h
  have h1 : (dids.zip ms).zipIdx[i]? = some ((y, m), i) := by
    rw [List.getElem?_zipIdx]
    have : (dids.zip ms)[i]? = some (y, m) := by rw [List.getElem?_zip_eq_some]; exact ⟨hy, hm⟩
    rw [this]; simp
  have h2 := List.all_eq_true.1 h _ (List.mem_of_getElem? h1)
  have h3 : (dids.take i).zipIdx[k]? = some (x, k) := by
    rw [List.getElem?_zipIdx, List.getElem?_take, if_pos hk, hx]; simp
  have h4 := List.all_eq_true.1 h2 _ (List.mem_of_getElem? h3)
  simpa using h4
theorem lastW_mem : ∀ (wb : List (Nat × Ent)) (x : Nat), lastW wb x ≠ none → ∃ e, (x, e) ∈ wb
  | [], x, h => absurd rfl h
  | (b, e) :: l, x, h => by
    simp only [lastW] at h
    by_cases hx : x = b
    · subst hx; exact ⟨e, List.mem_cons_self ..⟩
    · rw [if_neg hx] at h
      cases hl : lastW l x with
      | none => simp [hl] at h
      | some e' =>
        obtain ⟨e2, h2⟩ := lastW_mem l x (by simp [hl])
        exact ⟨e2, List.mem_cons_of_mem _ h2⟩
theorem noconf_spec {x y : Did} (h : noconf x y = true) :
    (∀ d, x.ws = some d → d ∉ y.rs) ∧ (∀ d, x.ws = some d → y.ws ≠ some d) ∧ (∀ d, y.ws = some d → d ∉ x.rs) ∧
    (∀ b, x.writes b → b ∉ y.reads) ∧ (∀ b, x.writes b → ¬ y.writes b) ∧ (∀ b, y.writes b → b ∉ x.reads) := by
  unfold noconf at h
  simp only [Bool.and_eq_true, List.all_eq_true, Bool.not_eq_true', bne_iff_ne, ne_eq] at h
  obtain ⟨⟨⟨h1, h2⟩, h3⟩, h4⟩ := h
  refine ⟨fun d hd => ?_, fun d hd => ?_, fun d hd => ?_, fun b hb => ?_, fun b hb hb' => ?_, fun b hb => ?_⟩
  · rw [hd] at h1
    simp at h1; exact h1.1
  · rw [hd] at h1
    simp at h1; exact h1.2
  · rw [hd] at h2
    simp at h2; exact h2
  · obtain ⟨e, he⟩ := lastW_mem _ _ hb
    have := (h3 _ he).1
    simpa using this
  · obtain ⟨e, he⟩ := lastW_mem _ _ hb
    obtain ⟨e', he'⟩ := lastW_mem _ _ hb'
    exact (h3 _ he).2 _ he' rfl
  · obtain ⟨e, he⟩ := lastW_mem _ _ hb
    have := h4 _ he
    simpa using this
theorem wpAny_drawn {P : Program} {Y : Ctx → Prop} {Γ : Ctx} (hY : Y Γ) {fr : Option Nat} {ds : List Deferred} {ops : Array Oper} {Q : Exit → Act → World → Prop} {t : List AV} {h : Heap} {dids : List Did} (hlen : dids.length = ops.size) (hr : GoodAll P Y ops 0 t h dids) (hn : Γ.n0 ≤ h.length)
    {ms : List Nat} (hms : masks ops.toList [] = some ms) (hc : confs dids ms = true)
    (hQ : ∀ ρ' w' a', Inv Γ ρ' (endH h dids) w' → VRs ρ' (endT t dids) a'.tmps.toList → a'.defers = ds → Q .normal a' w') :
    ∀ (fuel : Nat) (listed : Array Bool), listed.size = ops.size → listed.toList.count false ≤ fuel →
      (∀ i o, listed.getD i false = true → ops[i]? = some o → ∀ e ∈ o.after, Region.binds .any e = true → listed.getD e.on false = true) →
      ∀ ρ w a, Inv Γ ρ (foldH (fun i => listed.getD i false) 0 dids h) w → VRs ρ (foldT (fun i => listed.getD i false) 0 dids t) a.tmps.toList → a.defers = ds → wpAnyIn (frF fr) 0 P .any ops Q fuel listed a w := by
  obtain ⟨htt, hhh, hat⟩ := goodAll_at dids 0 t h hr
  obtain ⟨m1, _, m3⟩ := masks_spec _ _ _ hms
  -- all are listed where none is ready
  have allDone : ∀ listed : Array Bool, listed.size = ops.size → Region.ready .any ops listed = [] → ∀ i, i < ops.size → listed.getD i false = true := by
    intro listed hsz hrd i
    induction i using Nat.strongRecOn with
    | _ i ih =>
      intro hi
      cases hb : listed.getD i false with
      | true => rfl
      | false =>
        exfalso
        have hmem : i ∈ Region.ready .any ops listed := by
          refine mem_ready.2 ⟨?_, ops[i], Array.getElem?_eq_getElem hi, fun e he hb' => ?_⟩
          · have : i < listed.size := by omega
            simp [Array.getD, this] at hb ⊢
            exact hb
          · have hlt := (m3 i ops[i] (by simp [hi])).1 e he hb'
            simp at hlt
            exact ih e.on hlt (by omega)
        rw [hrd] at hmem; cases hmem
  have finish : ∀ (listed : Array Bool), listed.size = ops.size → (∀ i, i < ops.size → listed.getD i false = true) → ∀ ρ w a, Inv Γ ρ (foldH (fun i => listed.getD i false) 0 dids h) w → VRs ρ (foldT (fun i => listed.getD i false) 0 dids t) a.tmps.toList → a.defers = ds → Q .normal a w := by
    intro listed hsz hall ρ w a hI hV hd
    have hSk : ∀ k d, dids[k]? = some d → listed.getD (0 + k) false ≠ true → False := fun k d hk hne => by
      have : k < dids.length := by
        rcases Nat.lt_or_ge k dids.length with h' | h'
        · exact h'
        · simp [List.getElem?_eq_none h'] at hk
      rw [hlen] at this
      exact hne (by rw [Nat.zero_add]; exact hall k (by simpa using this))
    refine hQ ρ w a (hI.congr fun b => ?_) ?_ hd
    · rw [hhh]
      exact (foldH_agree _ _ b dids 0 h h rfl fun k d hk hne => absurd (hSk k d hk hne) id).symm
    · rw [htt]
      have : foldT (fun _ => true) 0 dids t = foldT (fun i => listed.getD i false) 0 dids t := by
        apply List.ext_getElem?
        intro x
        exact (foldT_agree _ _ x dids 0 t t rfl rfl fun k d hk hne => absurd (hSk k d hk hne) id).symm
      rw [this]; exact hV
  intro fuel
  induction fuel with
  | zero =>
    intro listed hsz hcnt hcl ρ w a hI hV hd
    have hall : ∀ i, i < ops.size → listed.getD i false = true := fun i hi => by
      have h0 : listed.toList.count false = 0 := by omega
      rw [List.count_eq_zero] at h0
      have hi' : i < listed.size := by omega
      cases hb : listed.getD i false with
      | true => rfl
      | false =>
        simp [Array.getD, hi'] at hb
        exact absurd (by rw [← hb]; exact Array.getElem_mem_toList hi') h0
    refine ⟨?_, finish listed hsz hall ρ w a hI hV hd⟩
    apply List.eq_nil_iff_forall_not_mem.2
    intro i hi
    obtain ⟨h1, o, h2, _⟩ := mem_ready.1 hi
    have hlt : i < ops.size := by
      rcases Nat.lt_or_ge i ops.size with h' | h'
      · exact h'
      · simp [Array.getElem?_eq_none h'] at h2
    have := hall i hlt
    have hi' : i < listed.size := by omega
    simp [Array.getD, hi'] at h1 this
    rw [this] at h1; cases h1
  | succ fuel ih =>
    intro listed hsz hcnt hcl ρ w a hI hV hd
    refine ⟨fun hrd => finish listed hsz (allDone listed hsz hrd) ρ w a hI hV hd, fun i hi => ?_⟩
    obtain ⟨hun, o, ho, hpre⟩ := mem_ready.1 hi
    have hlt : i < ops.size := by
      rcases Nat.lt_or_ge i ops.size with h' | h'
      · exact h'
      · simp [Array.getElem?_eq_none h'] at ho
    have hil : i < listed.size := by omega
    have hSi : listed.getD i false = false := by simpa [Array.getD, hil] using hun
    obtain ⟨did, hdid⟩ : ∃ d, dids[i]? = some d := ⟨dids[i]'(by omega), List.getElem?_eq_getElem _⟩
    have hst := hat i did hdid
    simp only [Nat.zero_add] at hst
    obtain ⟨mi, hmi⟩ : ∃ m, ms[i]? = some m := ⟨ms[i]'(by simp at m1; omega), List.getElem?_eq_getElem _⟩
    have didlt : ∀ k d, dids[k]? = some d → k < ops.size := fun k d hk => by
      rcases Nat.lt_or_ge k dids.length with h' | h'
      · rw [hlen] at h'; simpa using h'
      · simp [List.getElem?_eq_none h'] at hk
    have closed := closed_mask hms (S := fun i => listed.getD i false) hcl
    -- those ahead of i are done
    have ahead : ∀ k, mi.testBit k = true → listed.getD k false = true := by
      intro k hk
      obtain ⟨e, he, hb, h6⟩ := (m3 i o (by simpa using ho)).2 mi (by simpa using hmi) k hk
      have hSe := hpre e he hb
      rcases h6 with h6 | ⟨m', h7, h8⟩
      · rw [← h6]; exact hSe
      · exact closed (e.on + 1) e.on (by omega) hSe m' h7 k h8
    -- one of another side does not touch i
    have before_i : ∀ k d, dids[k]? = some d → k < i → listed.getD k false = false → noconf d did = true := by
      intro k d hk hki hSk
      rcases confs_spec hc hki hdid hk hmi with h1 | h1
      · rw [ahead k h1] at hSk; cases hSk
      · exact h1
    have behind_i : ∀ k d, dids[k]? = some d → i < k → listed.getD k false = true → noconf did d = true := by
      intro k d hk hki hSk
      obtain ⟨mk, hmk⟩ : ∃ m, ms[k]? = some m := ⟨ms[k]'(by have := didlt k d hk; simp at m1; omega), List.getElem?_eq_getElem _⟩
      rcases confs_spec hc hki hk hdid hmk with h1 | h1
      · have := closed (k + 1) k (by omega) hSk mk hmk i h1
        rw [show listed.getD i false = true from this] at hSi; cases hSi
      · exact h1
    have differ : ∀ k d, dids[k]? = some d → (listed.getD (0 + k) false) ≠ decide (0 + k < i) → (k < i ∧ noconf d did = true) ∨ (i < k ∧ noconf did d = true) := by
      intro k d hk hne
      simp only [Nat.zero_add] at hne
      cases hSk : listed.getD k false with
      | false =>
        rw [hSk] at hne
        have hki : k < i := by
          rcases Nat.lt_or_ge k i with h' | h'
          · exact h'
          · exfalso; apply hne; simp; omega
        exact .inl ⟨hki, before_i k d hk hki hSk⟩
      | true =>
        rw [hSk] at hne
        have hki : i ≤ k := by
          rcases Nat.lt_or_ge k i with h' | h'
          · exfalso; apply hne; simp [h']
          · exact h'
        have : i ≠ k := fun e => by subst e; rw [hSi] at hSk; cases hSk
        exact .inr ⟨by omega, behind_i k d hk (by omega) hSk⟩
    have blocks_agree : ∀ b, b ∈ did.reads → (foldH (fun i => listed.getD i false) 0 dids h).get b = (foldH (fun j => decide (j < i)) 0 dids h).get b := by
      intro b hb
      refine foldH_agree _ _ b dids 0 h h rfl fun k d hk hne hw => ?_
      rcases differ k d hk hne with ⟨_, hnc⟩ | ⟨_, hnc⟩
      · exact (noconf_spec hnc).2.2.2.1 b hw hb
      · exact (noconf_spec hnc).2.2.2.2.2 b hw hb
    have agree : Agree did (foldT (fun j => decide (j < i)) 0 dids t) (foldT (fun i => listed.getD i false) 0 dids t) (foldH (fun j => decide (j < i)) 0 dids h) (foldH (fun i => listed.getD i false) 0 dids h) := by
      refine ⟨fun x hx => ?_, fun b hb => blocks_agree b (List.mem_append.2 (.inl hb)), fun x h1 h2 => ?_⟩
      · simp only [List.getD_eq_getElem?_getD]
        rw [foldT_agree (fun i => listed.getD i false) (fun j => decide (j < i)) x dids 0 t t rfl rfl fun k d hk hne hw => ?_]
        rcases differ k d hk hne with ⟨_, hnc⟩ | ⟨_, hnc⟩
        · exact (noconf_spec hnc).1 x hw hx
        · exact (noconf_spec hnc).2.2.1 x hw hx
      · rw [blocks_agree x (List.mem_append.2 (.inr (by simp [List.mem_range'_1]; omega)))]
        exact get_beyond _ _ (by rw [hst.new] at h1; exact h1)
    have hnb : Γ.n0 ≤ (foldH (fun j => decide (j < i)) 0 dids h).length := by
      have : ∀ (S : Nat → Bool) (l : List Did) (k : Nat) (h : Heap), h.length ≤ (foldH S k l h).length := by
        intro S l
        induction l with
        | nil => intro k h; exact Nat.le_refl _
        | cons d l ih2 =>
          intro k h
          simp only [foldH]
          refine Nat.le_trans ?_ (ih2 (k + 1) _)
          split
          · exact Heap.upds_length _ _
          · exact Nat.le_refl _
      exact Nat.le_trans hn (this _ _ _ _)
    refine hst.ok Γ hY _ _ agree hnb ρ _ a hI hV hd fr Q _ fun ρ' w' a' h1 h2 h3 => ?_
    have hS' : ∀ k, (listed.setIfInBounds i true).getD k false = (if k = i then true else listed.getD k false) := fun k => by
      simp only [Array.getD_eq_getD_getElem?]
      by_cases hk : k = i
      · subst hk; rw [Array.getElem?_setIfInBounds_self_of_lt hil]; simp
      · rw [Array.getElem?_setIfInBounds_ne (fun e => hk e.symm), if_neg hk]
    refine ih (listed.setIfInBounds i true) (by simpa using hsz) ?_ ?_ ρ' w' a' ?_ ?_ h3
    · rw [Array.toList_setIfInBounds]
      have hi2 : i < listed.toList.length := by simpa using hil
      have hv : listed.toList[i] = false := by
        have := hSi
        simp [Array.getD, hil] at this
        simpa using this
      rw [List.count_set hi2, hv]
      have hpos : 0 < listed.toList.count false := List.count_pos_iff.2 (by rw [← hv]; exact List.getElem_mem hi2)
      have e1 : ((false == false) = true) := rfl
      have e2 : ((true == false) = true) ↔ False := by simp
      rw [if_pos e1, if_neg (by simp)]
      omega
    · intro k o' hk ho' e he hb
      rw [hS'] at hk ⊢
      by_cases hke : e.on = i
      · rw [if_pos hke]
      · rw [if_neg hke]
        by_cases hki : k = i
        · subst hki
          rw [ho] at ho'; injection ho' with ho'; subst ho'
          exact hpre e he hb
        · rw [if_neg hki] at hk
          exact hcl k o' hk ho' e he hb
    · refine h1.congr fun b => ?_
      simp only [Did.h, get_upds']
      cases hw : lastW did.wb b with
      | some e =>
        rw [foldH_last (fun k => (listed.setIfInBounds i true).getD k false) b did e hw dids 0 i h hdid (by simp only [Nat.zero_add]; rw [hS', if_pos rfl]) fun k d' hk hd' hSk hwr => ?_]
        · rfl
        · simp only [Nat.zero_add] at hSk
          rw [hS', if_neg (by omega)] at hSk
          exact (noconf_spec (behind_i k d' hd' hk hSk)).2.2.2.2.1 b (by unfold Did.writes; rw [hw]; simp) hwr
      | none =>
        simp only [Option.getD_none]
        refine foldH_agree _ _ b dids 0 h h rfl fun k d hk hne hwr => ?_
        simp only [Nat.zero_add] at hne
        rw [hS'] at hne
        by_cases hki : k = i
        · subst hki
          rw [hdid] at hk; injection hk with hk; subst hk
          exact hwr hw
        · rw [if_neg hki] at hne; exact hne rfl
    · have : foldT (fun k => (listed.setIfInBounds i true).getD k false) 0 dids t = did.t (foldT (fun i => listed.getD i false) 0 dids t) := by
        apply List.ext_getElem?
        intro x
        by_cases hw : did.ws = some x
        · by_cases hx : x < t.length
          · rw [foldT_last (fun k => (listed.setIfInBounds i true).getD k false) x did hw dids 0 i t hdid (by simp only [Nat.zero_add]; rw [hS', if_pos rfl]) (fun k d' hk hd' hSk hwr => by
              simp only [Nat.zero_add] at hSk
              rw [hS', if_neg (by omega)] at hSk
              exact (noconf_spec (behind_i k d' hd' hk hSk)).2.1 x hw hwr) hx]
            simp only [Did.t, hw, putT]
            rw [List.getElem?_set_self (by rw [foldT_length]; exact hx)]
          · rw [List.getElem?_eq_none (by rw [foldT_length]; omega), List.getElem?_eq_none (by simp only [Did.t, putT_length, foldT_length]; omega)]
        · rw [show (did.t (foldT (fun i => listed.getD i false) 0 dids t))[x]? = (foldT (fun i => listed.getD i false) 0 dids t)[x]? from putT_get _ _ _ _ hw]
          refine foldT_agree _ _ x dids 0 t t rfl rfl fun k d hk hne hwr => ?_
          simp only [Nat.zero_add] at hne
          rw [hS'] at hne
          by_cases hki : k = i
          · subst hki
            rw [hdid] at hk; injection hk with hk; subst hk
            exact hw hwr
          · rw [if_neg hki] at hne; exact hne rfl
      rw [this]; exact h2
theorem region_ok {P : Program} (hm : P.follows .mixedOrders = true) {Y : Ctx → Prop} {Γ : Ctx} (hY : Y Γ) {fr : Option Nat} {ds : List Deferred} {id : Nat} {ops : Array Oper} {draw : Bool} {Q : Exit → Act → World → Prop} {t : List AV} {h : Heap} {dids : List Did} (hlen : dids.length = ops.size) (hr : GoodAll P Y ops 0 t h dids)
    (hdr : draw = true → ∃ ms, masks ops.toList [] = some ms ∧ confs dids ms = true) (hn : Γ.n0 ≤ h.length)
    {ρ : Ren} {w : World} {a : Act} (hI : Inv Γ ρ h w) (hV : VRs ρ t a.tmps.toList) (hd : a.defers = ds)
    (hQ : ∀ ρ' w' a', Inv Γ ρ' (endH h dids) w' → VRs ρ' (endT t dids) a'.tmps.toList → a'.defers = ds → Q .normal a' w') : (Code.region id ops draw).wpIn (frF fr) 0 P Q a w := by
  cases draw with
  | false =>
    refine wpIn_region ?_
    have := goodAll_seq hY (Q := Q) (fr := fr) dids 0 t h hr hn ρ w a hI hV hd hQ
    rw [List.range_eq_range', ← hlen]
    exact this
  | true =>
    obtain ⟨ms, hms, hc⟩ := hdr rfl
    refine wpIn_region_any hm ?_
    refine wpAny_drawn hY hlen hr hn hms hc hQ ops.size _ (by simp) (by simp) (fun i o hi => ?_) ρ _ a ?_ ?_ hd
    · simp [Array.getD] at hi
    · rw [foldH_none _ _ _ _ (by intro j _; simp [Array.getD])]
      exact hI.of_heap rfl rfl rfl rfl
    · rw [foldT_none _ _ _ _ (by intro j _; simp [Array.getD])]
      exact hV
end Go.Ab
namespace Go.Ab
mutual
def Sh.same : (a b : Sh) → Option (PLift (a = b))
  | .int k, .int k' => if h : k = k' then some ⟨by rw [h]⟩ else none
  | .bool, .bool => some ⟨rfl⟩
  | .str, .str => some ⟨rfl⟩
  | .st l, .st l' => match Sh.sames l l' with
    | some h => some ⟨by rw [h.down]⟩
    | none => none
  | .sl a, .sl b => match Sh.same a b with
    | some h => some ⟨by rw [h.down]⟩
    | none => none
  | .rows a, .rows b => match Sh.same a b with
    | some h => some ⟨by rw [h.down]⟩
    | none => none
  | _, _ => none
def Sh.sames : (a b : List Sh) → Option (PLift (a = b))
  | [], [] => some ⟨rfl⟩
  | a :: l, b :: m => match Sh.same a b, Sh.sames l m with
    | some h, some h' => some ⟨by rw [h.down, h'.down]⟩
    | _, _ => none
  | _, _ => none
end
def decInt (k : IntKind) : List AV → Option (Int × List AV)
  | .val (.int k' x) :: r => if k' = k then some (x, r) else none
  | _ => none
def decBool : List AV → Option (Bool × List AV)
  | .val (.bool b) :: r => some (b, r)
  | _ => none
def decStr : List AV → Option (ByteArray × List AV)
  | .val (.string s) :: r => some (s, r)
  | _ => none
mutual
def Sh.dec : (s : Sh) → List AV → Option (s.T × List AV)
  | .int k, cs => decInt k cs
  | .bool, cs => decBool cs
  | .str, cs => decStr cs
  | .st l, cs => Sh.decs l cs
  | .sl _, _ => none
  | .rows _, _ => none
def Sh.decs : (l : List Sh) → List AV → Option (Sh.Ts l × List AV)
  | [], cs => some ((), cs)
  | s :: l, cs => match Sh.dec s cs with
    | some (y, r) => (match Sh.decs l r with
      | some (z, r') => some ((y, z), r')
      | none => none)
    | none => none
end
mutual
theorem dec_ok : ∀ (s : Sh) (cs : List AV) (y : s.T) (r : List AV), s.dec cs = some (y, r) → s.flat = true ∧ cs = (s.enc y).map .val ++ r
  | .int k, cs, y, r, h => by
    simp only [Sh.dec] at h
    unfold decInt at h
    split at h
    · split at h
      · rename_i hk; subst hk; injection h with h; injection h with h1 h2; subst h1; subst h2; exact ⟨rfl, rfl⟩
      · cases h
    · cases h
  | .bool, cs, y, r, h => by
    simp only [Sh.dec] at h
    unfold decBool at h
    split at h
    · injection h with h; injection h with h1 h2; subst h1; subst h2; exact ⟨rfl, rfl⟩
    · cases h
  | .str, cs, y, r, h => by
    simp only [Sh.dec] at h
    unfold decStr at h
    split at h
    · injection h with h; injection h with h1 h2; subst h1; subst h2; exact ⟨rfl, rfl⟩
    · cases h
  | .st l, cs, y, r, h => by
    simp only [Sh.dec] at h
    simpa [Sh.flat, Sh.enc] using decs_ok l cs y r h
  | .sl _, cs, y, r, h => by simp [Sh.dec] at h
  | .rows _, cs, y, r, h => by simp [Sh.dec] at h
theorem decs_ok : ∀ (l : List Sh) (cs : List AV) (y : Sh.Ts l) (r : List AV), Sh.decs l cs = some (y, r) → Sh.flats l = true ∧ cs = (Sh.encs l y).map .val ++ r
  | [], cs, y, r, h => by
    simp only [Sh.decs] at h; injection h with h; injection h with h1 h2; subst h2; exact ⟨rfl, rfl⟩
  | s :: l, cs, y, r, h => by
    simp only [Sh.decs] at h
    split at h
    case h_2 => cases h
    rename_i y0 r0 h0
    split at h
    case h_2 => cases h
    rename_i z r' h1
    injection h with h; injection h with e1 e2; subst e1; subst e2
    obtain ⟨f1, g1⟩ := dec_ok s cs y0 r0 h0
    obtain ⟨f2, g2⟩ := decs_ok l r0 z r' h1
    exact ⟨by simp [Sh.flats, f1, f2], by rw [g1, g2]; simp [Sh.encs]⟩
end
def decN (s : Sh) : Nat → List AV → Option (List s.T)
  | 0, _ => some []
  | n + 1, cs => match s.dec cs with
    | some (y, r) => (match decN s n r with
      | some l => some (y :: l)
      | none => none)
    | none => none
theorem decN_ok {s : Sh} : ∀ (n : Nat) (cs : List AV) (l : List s.T), decN s n cs = some l → l.length = n ∧ ∃ r, cs = (s.flatl l).map .val ++ r
  | 0, cs, l, h => by simp [decN] at h; subst h; exact ⟨rfl, cs, rfl⟩
  | n + 1, cs, l, h => by
    simp only [decN] at h
    split at h
    case h_2 => cases h
    rename_i y r hy
    split at h
    case h_2 => cases h
    rename_i l' hl
    injection h with h; subst h
    obtain ⟨h1, r', h2⟩ := decN_ok n r l' hl
    exact ⟨by simp [h1], r', by rw [(dec_ok s cs y r hy).2, h2]; simp [Sh.flatl]⟩
def cut {α : Type} (l : List α) (k n : Nat) : List α := (l.drop k).take n
theorem decide_self (n : Nat) : decide (n = n) = true := by simp
theorem cut_all {α : Type} (l : List α) : cut l 0 l.length = l := by simp [cut]
theorem cut_length {α : Type} {l : List α} {k n : Nat} (h : k + n ≤ l.length) : (cut l k n).length = n := by simp [cut]; omega
theorem flatl_drop {s : Sh} (hf : s.flat = true) (l : List s.T) : ∀ k, s.flatl (l.drop k) = (s.flatl l).drop (k * s.w) := by
  induction l with
  | nil => intro k; simp [Sh.flatl]
  | cons y l ih =>
    intro k
    cases k with
    | zero => simp
    | succ k =>
      rw [List.drop_succ_cons, ih k]
      simp only [Sh.flatl, List.flatMap_cons]
      have e := enc_length s y hf
      rw [List.drop_append, List.drop_eq_nil_of_le (show (s.enc y).length ≤ (k + 1) * s.w by rw [e, Nat.add_mul]; omega), e, show (k + 1) * s.w - s.w = k * s.w by rw [Nat.add_mul]; omega]
      rfl
theorem flatl_take_get {s : Sh} (l : List s.T) (n : Nat) {j : Nat} {v : Value} (h : (s.flatl (l.take n))[j]? = some v) : (s.flatl l)[j]? = some v := by
  have : s.flatl l = s.flatl (l.take n) ++ s.flatl (l.drop n) := by
    conv => lhs; rw [← List.take_append_drop n l]
    simp only [Sh.flatl, List.flatMap_append]
  rw [this, List.getElem?_append_left (List.getElem?_eq_some_iff.1 h).1]; exact h
theorem Inv.addEmpty {Γ : Ctx} {ρ : Ren} {h : Heap} {w : World} (hI : Inv Γ ρ h w) {new : Nat} (hn : Γ.n0 ≤ new) (hfree : h.get new = .free) (cells : Cells) (hlen : cells.len = 0) (hcells : ∀ ρ w cb co, CellsAt ρ w cb co cells) (grow : Option Nat) :
    ρ.le (ρ.put new (0, 0, 0)) ∧ Inv Γ (ρ.put new (0, 0, 0)) (h.upd new (.live { cells, rw := true, grow })) w := by
  have hle := Ren.le_put (c := (0, 0, 0)) (hI.sim.dom new hfree)
  have hpn : (ρ.put new (0, 0, 0)) new = some (0, 0, 0) := by simp [Ren.put]
  have hpo : ∀ b, b ≠ new → (ρ.put new (0, 0, 0)) b = ρ b := fun b hb => by simp [Ren.put, hb]
  have ent : ∀ x blk, (h.upd new (.live { cells, rw := true, grow })).get x = .live blk → (x ≠ new ∧ h.get x = .live blk) ∨ (x = new ∧ blk = { cells, rw := true, grow }) := fun x blk hx => by
    rw [Heap.get_upd] at hx
    by_cases hxn : x = new
    · rw [if_pos hxn] at hx; injection hx with hx; exact .inr ⟨hxn, hx.symm⟩
    · rw [if_neg hxn] at hx; exact .inl ⟨hxn, hx⟩
  have nosol : ∀ c, (ρ.put new (0, 0, 0)) new = some c → ¬ Blk.solid { cells, rw := true, grow } c := fun c hc hs => by
    rw [hpn] at hc; injection hc with hc; subst hc
    rcases hs with hs | hs
    · simp only [hlen] at hs; omega
    · simp at hs
  refine ⟨hle, ⟨⟨?_, ?_, ?_, ?_, ?_, ?_, ?_, ?_, ?_⟩, ?_, hI.sameBase, hI.os, hI.tape, hI.output, hI.size, hI.keep, ?_⟩⟩
  · intro x blk hx
    rcases ent x blk hx with ⟨h1, h2⟩ | ⟨h1, h2⟩
    · rw [hpo x h1]; exact hI.sim.some_ x blk h2
    · subst h1; exact ⟨_, hpn⟩
  · intro x blk c hx hc
    rcases ent x blk hx with ⟨h1, h2⟩ | ⟨h1, h2⟩
    · rw [hpo x h1] at hc; exact (hI.sim.cells x blk c h2 hc).mono hle
    · subst h2; exact hcells _ _ _ _
  · intro x blk c hx hc hs
    rcases ent x blk hx with ⟨h1, h2⟩ | ⟨h1, h2⟩
    · rw [hpo x h1] at hc; exact hI.sim.inside x blk c h2 hc hs
    · subst h1; subst h2; exact absurd hs (nosol c hc)
  · intro x blk c hx hc hr hs
    rcases ent x blk hx with ⟨h1, h2⟩ | ⟨h1, h2⟩
    · rw [hpo x h1] at hc; exact hI.sim.own x blk c h2 hc hr hs
    · subst h1; subst h2; exact absurd hs (nosol c hc)
  · intro x y xb yb c d hx hy hne hc hd hr hs hs'
    rcases ent x xb hx with ⟨h1, h2⟩ | ⟨h1, h2⟩
    · rcases ent y yb hy with ⟨k1, k2⟩ | ⟨k1, k2⟩
      · rw [hpo x h1] at hc; rw [hpo y k1] at hd
        exact hI.sim.apart x y xb yb c d h2 k2 hne hc hd hr hs hs'
      · subst k1; subst k2; exact absurd hs' (nosol d hd)
    · subst h1; subst h2; exact absurd hs (nosol c hc)
  · intro x hx
    rw [Heap.get_upd] at hx
    split at hx
    · cases hx
    · rename_i hxn; rw [hpo x hxn]; exact hI.sim.dom x hx
  · exact hI.sim.baseLe
  · exact hI.sim.old
  · intro x blk c hx hc hr hs
    rcases ent x blk hx with ⟨h1, h2⟩ | ⟨h1, h2⟩
    · rw [hpo x h1] at hc; exact hI.sim.above x blk c h2 hc hr hs
    · subst h1; subst h2; exact absurd hs (nosol c hc)
  · intro b hb
    rw [hpo b (by omega)]; exact hI.agree b hb
  · intro x blk c hx hc hr hs
    rcases ent x blk hx with ⟨h1, h2⟩ | ⟨h1, h2⟩
    · rw [hpo x h1] at hc; exact hI.fresh x blk c h2 hc hr hs
    · subst h1; subst h2; exact absurd hs (nosol c hc)
theorem Inv.move {Γ : Ctx} {ρ : Ren} {h : Heap} {w : World} (hI : Inv Γ ρ h w) {b new : Nat} {blk : Blk} (hb : h.get b = .live blk) {c : Nat × Nat × Nat} (hc : ρ b = some c) (hn : Γ.n0 ≤ new) (hfree : h.get new = .free) :
    ρ.le (ρ.put new c) ∧ Inv Γ (ρ.put new c) ((h.upd b .dead).upd new (.live blk)) w := by
  have hle := Ren.le_put (c := c) (hI.sim.dom new hfree)
  have hbn : b ≠ new := fun e => by rw [e, hfree] at hb; cases hb
  have hpn : (ρ.put new c) new = some c := by simp [Ren.put]
  have hpo : ∀ x, x ≠ new → (ρ.put new c) x = ρ x := fun x hx => by simp [Ren.put, hx]
  have ent : ∀ x xb, ((h.upd b .dead).upd new (.live blk)).get x = .live xb → (x ≠ new ∧ x ≠ b ∧ h.get x = .live xb) ∨ (x = new ∧ xb = blk) := fun x xb hx => by
    rw [Heap.get_upd] at hx
    by_cases hxn : x = new
    · rw [if_pos hxn] at hx; injection hx with hx; exact .inr ⟨hxn, hx.symm⟩
    · rw [if_neg hxn, Heap.get_upd] at hx
      by_cases hxb : x = b
      · rw [if_pos hxb] at hx; cases hx
      · rw [if_neg hxb] at hx; exact .inl ⟨hxn, hxb, hx⟩
  have one : ∀ d, (ρ.put new c) new = some d → d = c := fun d hd => by rw [hpn] at hd; injection hd with hd; exact hd.symm
  refine ⟨hle, ⟨⟨?_, ?_, ?_, ?_, ?_, ?_, hI.sim.baseLe, hI.sim.old, ?_⟩, ?_, hI.sameBase, hI.os, hI.tape, hI.output, hI.size, hI.keep, ?_⟩⟩
  · intro x xb hx
    rcases ent x xb hx with ⟨h1, h2, h3⟩ | ⟨h1, h2⟩
    · rw [hpo x h1]; exact hI.sim.some_ x xb h3
    · subst h1; exact ⟨_, hpn⟩
  · intro x xb d hx hd
    rcases ent x xb hx with ⟨h1, h2, h3⟩ | ⟨h1, h2⟩
    · rw [hpo x h1] at hd; exact (hI.sim.cells x xb d h3 hd).mono hle
    · subst h1; subst h2; rw [one d hd]; exact (hI.sim.cells b xb c hb hc).mono hle
  · intro x xb d hx hd hs
    rcases ent x xb hx with ⟨h1, h2, h3⟩ | ⟨h1, h2⟩
    · rw [hpo x h1] at hd; exact hI.sim.inside x xb d h3 hd hs
    · subst h1; subst h2; rw [one d hd] at hs ⊢; exact hI.sim.inside b xb c hb hc hs
  · intro x xb d hx hd hr hs
    rcases ent x xb hx with ⟨h1, h2, h3⟩ | ⟨h1, h2⟩
    · rw [hpo x h1] at hd; exact hI.sim.own x xb d h3 hd hr hs
    · subst h1; subst h2; rw [one d hd] at hs ⊢; exact hI.sim.own b xb c hb hc hr hs
  · intro x y xb yb d e hx hy hne hd he hr hs hs'
    rcases ent x xb hx with ⟨h1, h2, h3⟩ | ⟨h1, h2⟩
    · rw [hpo x h1] at hd
      rcases ent y yb hy with ⟨k1, k2, k3⟩ | ⟨k1, k2⟩
      · rw [hpo y k1] at he; exact hI.sim.apart x y xb yb d e h3 k3 hne hd he hr hs hs'
      · subst k1; subst k2; rw [one e he] at hs' ⊢; exact hI.sim.apart x b xb yb d c h3 hb h2 hd hc hr hs hs'
    · subst h1; subst h2; rw [one d hd] at hs ⊢
      rcases ent y yb hy with ⟨k1, k2, k3⟩ | ⟨k1, k2⟩
      · rw [hpo y k1] at he; exact hI.sim.apart b y xb yb c e hb k3 (Ne.symm k2) hc he hr hs hs'
      · exact absurd k1.symm hne
  · intro x hx
    rw [Heap.get_upd] at hx
    split at hx
    · cases hx
    · rename_i hxn
      rw [Heap.get_upd] at hx
      split at hx
      · cases hx
      · rw [hpo x hxn]; exact hI.sim.dom x hx
  · intro x xb d hx hd hr hs
    rcases ent x xb hx with ⟨h1, h2, h3⟩ | ⟨h1, h2⟩
    · rw [hpo x h1] at hd; exact hI.sim.above x xb d h3 hd hr hs
    · subst h1; subst h2; rw [one d hd] at hs ⊢; exact hI.sim.above b xb c hb hc hr hs
  · intro x hx
    rw [hpo x (by omega)]; exact hI.agree x hx
  · intro x xb d hx hd hr hs
    rcases ent x xb hx with ⟨h1, h2, h3⟩ | ⟨h1, h2⟩
    · rw [hpo x h1] at hd; exact hI.fresh x xb d h3 hd hr hs
    · subst h1; subst h2; rw [one d hd] at hs ⊢; exact hI.fresh b xb c hb hc hr hs
def CRel (ρ : Ren) : Cells → List Value → Prop
  | .lit l, us => VRs ρ l us
  | .arr s l, us => us = s.flatl l
  | _, _ => False
theorem CRel.len {ρ : Ren} {c : Cells} {us : List Value} (h : CRel ρ c us) : c.len = us.length := by
  cases c with
  | lit l => exact h.length
  | arr s l => rw [show us = _ from h]; rfl
  | _ => exact absurd h (by simp [CRel])
theorem CRel.at_ {ρ : Ren} {c : Cells} {us : List Value} (h : CRel ρ c us) {w : World} {cb co : Nat} (hu : ∀ (j : Nat) (v : Value), us[j]? = some v → w.cell? ⟨cb, co + j, none⟩ = some v) : CellsAt ρ w cb co c := by
  cases c with
  | lit l =>
    intro i v hi
    have hlt : i < us.length := by rw [← h.length]; exact (List.getElem?_eq_some_iff.1 hi).1
    refine ⟨us[i], hu i _ (List.getElem?_eq_getElem hlt), ?_⟩
    have : ∀ (as : List AV) (vs : List Value) (i : Nat) (a : AV) (x : Value), VRs ρ as vs → as[i]? = some a → vs[i]? = some x → VR ρ a x := by
      intro as
      induction as with
      | nil => intro vs i a x _ h1; simp at h1
      | cons a0 as ih =>
        intro vs i a x hv h1 h2
        cases vs with
        | nil => simp at h2
        | cons v0 vs =>
          simp only [VRs] at hv
          cases i with
          | zero => simp at h1 h2; subst h1; subst h2; exact hv.1
          | succ i => exact ih vs i a x hv.2 (by simpa using h1) (by simpa using h2)
    exact this l us i v _ h hi (List.getElem?_eq_getElem hlt)
  | arr s l =>
    intro i v hi
    exact hu i v (by rw [show us = _ from h]; exact hi)
  | _ => exact absurd h (by simp [CRel])
theorem CRel.of_at {ρ : Ren} {c : Cells} {w : World} {cb co : Nat} (hc : CellsAt ρ w cb co c) (hk : (∃ l, c = .lit l) ∨ ∃ s l, c = .arr s l) : ∃ us, CRel ρ c us ∧ ∀ (j : Nat) (v : Value), us[j]? = some v → w.cell? ⟨cb, co + j, none⟩ = some v := by
  rcases hk with ⟨l, rfl⟩ | ⟨s, l, rfl⟩
  · obtain ⟨cs, h1, h2⟩ := CellsAt.list l co hc
    exact ⟨cs, h1, h2⟩
  · exact ⟨s.flatl l, rfl, hc⟩
def decAll (s : Sh) (n : Nat) (cs : List AV) : Option (List s.T) :=
  match decN s n cs with
  | some l => if n * s.w = cs.length then some l else none
  | none => none
def joinCells (n m : Nat) : Cells → Cells → Option Cells
  | .lit a, .lit b => some (.lit (a ++ b))
  | .arr s a, .arr s' b => (match Sh.same s' s with
    | some h => some (.arr s (a ++ (h.down ▸ b)))
    | none => none)
  | .arr s a, .lit b => if s.flat = true then (match decAll s m b with
    | some l => some (.arr s (a ++ l))
    | none => none) else none
  | .lit a, .arr s b => if s.flat = true then (match decAll s n a with
    | some l => some (.arr s (l ++ b))
    | none => none) else none
  | _, _ => none
theorem flatl_append (s : Sh) (a b : List s.T) : s.flatl (a ++ b) = s.flatl a ++ s.flatl b := by simp [Sh.flatl]
theorem VRs_vals {ρ : Ren} : ∀ (l us : List Value), VRs ρ (l.map .val) us → us = l
  | [], [], _ => rfl
  | [], _ :: _, h => by simp [VRs] at h
  | _ :: _, [], h => by simp [VRs] at h
  | a :: l, u :: us, h => by
    simp only [List.map_cons, VRs, VR] at h
    rw [h.1, VRs_vals l us h.2]
theorem decAll_ok {s : Sh} (hf : s.flat = true) {n : Nat} {cs : List AV} {l : List s.T} (h : decAll s n cs = some l) {ρ : Ren} {us : List Value} (hu : VRs ρ cs us) : us = s.flatl l := by
  unfold decAll at h
  split at h
  case h_2 => cases h
  rename_i l' hl
  split at h
  case isFalse => cases h
  rename_i hn
  injection h with h; subst h
  obtain ⟨h1, r, h2⟩ := decN_ok n cs l' hl
  have h3 := congrArg List.length h2
  have h4 : (s.flatl l').length = n * s.w := by rw [flatl_length s hf, h1]
  simp only [List.length_append, List.length_map, h4] at h3
  have : r = [] := List.length_eq_zero_iff.1 (by omega)
  subst this
  rw [List.append_nil] at h2
  rw [h2] at hu
  exact VRs_vals _ _ hu
theorem joinCells_ok {n m : Nat} {a b c : Cells} (h : joinCells n m a b = some c) {ρ : Ren} {us vs : List Value} (ha : CRel ρ a us) (hb : CRel ρ b vs) : CRel ρ c (us ++ vs) := by
  unfold joinCells at h
  split at h
  · injection h with h; subst h; exact ha.append hb
  · rename_i s a s' b
    split at h
    case h_2 => cases h
    rename_i hs _
    obtain ⟨hs⟩ := hs
    subst hs
    injection h with h; subst h
    show _ = _
    rw [show us = _ from ha, show vs = _ from hb, flatl_append]
  · rename_i s a b
    split at h
    case isFalse => cases h
    rename_i hf
    split at h
    case h_2 => cases h
    rename_i l hl
    injection h with h; subst h
    show _ = _
    rw [show us = _ from ha, decAll_ok hf hl hb, flatl_append]
  · rename_i a s b
    split at h
    case isFalse => cases h
    rename_i hf
    split at h
    case h_2 => cases h
    rename_i l hl
    injection h with h; subst h
    show _ = _
    rw [decAll_ok hf hl ha, show vs = _ from hb, flatl_append]
  · cases h
def partC (size : Nat) (cp : Cap) : Cells → Nat → Nat → Option (Cells × Bool)
  | .lit l, o, m => if o + m * size ≤ l.length ∧ l.all AV.one = true then some (.lit ((l.drop o).take (m * size)), true) else none
  | .arr s l, o, m => if s.flat = true ∧ s.w = size then (match cp with
    | .part => if size = 1 then some (.arr s (cut l o m), decide (o + m ≤ l.length)) else none
    | _ => (match o with
      | 0 => some (.arr s l, decide (m = l.length))
      | o' + 1 => if size = 1 then some (.arr s (cut l (o' + 1) m), decide (o' + 1 + m ≤ l.length)) else none)) else none
  | _, _, _ => none
mutual
theorem enc_one : ∀ (s : Sh) (y : s.T), s.flat = true → ∀ v ∈ s.enc y, v.oneCell' = true
  | .int k, y, _, v, h => by simp [Sh.enc] at h; subst h; rfl
  | .bool, y, _, v, h => by simp [Sh.enc] at h; subst h; rfl
  | .str, y, _, v, h => by simp [Sh.enc] at h; subst h; rfl
  | .st l, y, hf, v, h => encs_one l y (by simpa [Sh.flat] using hf) v (by simpa [Sh.enc] using h)
  | .sl _, _, hf, _, _ => by simp [Sh.flat] at hf
  | .rows _, _, hf, _, _ => by simp [Sh.flat] at hf
theorem encs_one : ∀ (l : List Sh) (y : Sh.Ts l), Sh.flats l = true → ∀ v ∈ Sh.encs l y, v.oneCell' = true
  | [], _, _, v, h => by simp [Sh.encs] at h
  | s :: l, y, hf, v, h => by
    simp only [Sh.flats, Bool.and_eq_true] at hf
    simp only [Sh.encs, List.mem_append] at h
    rcases h with h | h
    · exact enc_one s y.1 hf.1 v h
    · exact encs_one l y.2 hf.2 v h
end
theorem flatl_one {s : Sh} (hf : s.flat = true) (l : List s.T) : ∀ v ∈ s.flatl l, v.oneCell' = true := fun v hv => by
  simp only [Sh.flatl, List.mem_flatMap] at hv
  obtain ⟨y, _, hy⟩ := hv
  exact enc_one s y hf v hy
theorem cut_one (s : Sh) (hw : s.w = 1) (hf : s.flat = true) (l : List s.T) (k n j : Nat) (v : Value) (h : (s.flatl (cut l k n))[j]? = some v) : (s.flatl l)[k + j]? = some v := by
  have h1 := flatl_take_get _ _ h
  rw [flatl_drop hf, List.getElem?_drop, hw, Nat.mul_one] at h1
  exact h1
theorem partC_ok {size : Nat} {cp : Cap} (hsz : 0 < size) {cells c : Cells} {o m : Nat} {q : Bool} (h : partC size cp cells o m = some (c, q)) (hq : q = true) {ρ : Ren} {w : World} {cb co : Nat} (hc : CellsAt ρ w cb co cells) :
    ∃ us, CRel ρ c us ∧ us.length = m * size ∧ (∀ v ∈ us, v.oneCell' = true) ∧ ∀ (j : Nat) (v : Value), us[j]? = some v → w.cell? ⟨cb, co + o + j, none⟩ = some v := by
  cases cells with
  | lit l =>
    simp only [partC] at h
    split at h
    case isFalse => cases h
    rename_i hcond
    injection h with h; injection h with h1 h2; subst h1
    obtain ⟨us, k1, k2⟩ := CRel.of_at hc (.inl ⟨l, rfl⟩)
    have k1 : VRs ρ l us := k1
    have hlen := k1.length
    refine ⟨(us.drop o).take (m * size), (k1.drop o).take _, by simp; omega, fun v hv => ?_, fun j v hj => ?_⟩
    · exact VRs_one k1 hcond.2 v (List.mem_of_mem_drop (List.mem_of_mem_take hv))
    · rw [List.getElem?_take] at hj
      split at hj
      · rw [List.getElem?_drop] at hj
        rw [Nat.add_assoc]; exact k2 _ v hj
      · cases hj
  | arr s l =>
    simp only [partC] at h
    split at h
    case isFalse => cases h
    rename_i hcond
    obtain ⟨hf, hw⟩ := hcond
    split at h
    · split at h
      case isFalse => cases h
      rename_i hs1
      injection h with h; injection h with h1 h2; subst h1; subst h2
      have hq : o + m ≤ l.length := by simpa using hq
      exact ⟨s.flatl (cut l o m), rfl, by rw [flatl_length s hf, hw, cut_length hq], flatl_one hf _, fun j v hj => by
        rw [Nat.add_assoc]; exact hc _ v (cut_one s (by omega) hf l _ _ _ _ hj)⟩
    split at h
    · injection h with h; injection h with h1 h2; subst h1; subst h2
      have hq : m = l.length := by simpa using hq
      exact ⟨s.flatl l, rfl, by rw [flatl_length s hf, hw, hq], flatl_one hf l, fun j v hj => by rw [Nat.add_zero]; exact hc j v hj⟩
    · rename_i o'
      split at h
      case isFalse => cases h
      rename_i hs1
      injection h with h; injection h with h1 h2; subst h1; subst h2
      have hq : o' + 1 + m ≤ l.length := by simpa using hq
      exact ⟨s.flatl (cut l (o' + 1) m), rfl, by rw [flatl_length s hf, hw, cut_length hq], flatl_one hf _, fun j v hj => by
        rw [Nat.add_assoc]; exact hc _ v (cut_one s (by omega) hf l _ _ _ _ hj)⟩
  | sym l => simp [partC] at h
  | rows l => simp [partC] at h
  | arrs s l => simp [partC] at h
section
variable {P : Program} {t ty el : TypeId} {ie : TypeInfo} {z : Value}
theorem app_same (ht : P.underlying t = some (.slice el)) (hi : P.info? el = some ie) (base : Option Addr) (n cap : Nat) (hn : n ≤ cap) (a : Option Addr) (c : Nat) (w : World) :
    (Builtin.append_ #[t, t] ty #[.slice base n cap, .slice a 0 c]).run P w = .ok (.slice base n cap) w := by
  have hf : (Builtin.firstCells ie.size 0 (.slice a 0 c)).run P w = .ok #[] w := by
    cases a <;> simp [Builtin.firstCells, loadCells, loadCellsFrom]
  cases base with
  | none => simp [Builtin.append_, run_underlying ht, sizeOf, typeInfo, hi, Builtin.lenOf, hn, hf]
  | some b => simp [Builtin.append_, run_underlying ht, sizeOf, typeInfo, hi, Builtin.lenOf, hn, hf, storeCells]
theorem app_grow (ht : P.underlying t = some (.slice el)) (hi : P.info? el = some ie) (hz : ie.zero = some z) (hzs : z.cells.size = ie.size) (base : Option Addr) (n cap : Nat) (hb : base = none → n = 0 ∧ cap = 0) (olds : List Value) (hlo : olds.length = n * ie.size)
    (w : World) (hcell : ∀ b, base = some b → ∀ (j : Nat) (v : Value), olds[j]? = some v → w.cell? (b.add j) = some v)
    (a : Addr) (m c : Nat) (news : List Value) (hl : news.length = m * ie.size) (hnews : ∀ (j : Nat) (v : Value), news[j]? = some v → w.cell? (a.add j) = some v) (hm : 0 < m) (hg : cap < n + m) (h63 : n + m ≤ 9223372036854775807) (hby : (n + m) * ie.bytes ≤ 140737488355328) :
    ∃ g w' cs, (Builtin.append_ #[t, t] ty #[.slice base n cap, .slice (some a) m c]).run P w = .ok (.slice (some ⟨w.heap.size, 0, none⟩) (n + m) g) w' ∧ n + m ≤ g ∧ w'.heap = w.heap.push (.cells cs el (0, 0)) ∧ w'.os = w.os ∧ w'.tape = w.tape ∧ w'.output = w.output ∧ cs.size = g * ie.size ∧ ∀ (j : Nat) (v : Value), (olds ++ news)[j]? = some v → cs[j]? = some v := by
  cases base with
  | none =>
    obtain ⟨rfl, rfl⟩ := hb rfl
    have ho : olds = [] := List.length_eq_zero_iff.1 (by simpa using hlo)
    subst ho
    have hr := run_append_nil (P := P) w t ty el ie z ht hi hz a m c news hl hnews hm (by omega) (by simp only [Nat.zero_add] at hby; omega)
    refine ⟨grownCap w m 0 el, w.drew.alloc (.cells (news.toArray ++ Builtin.zeroCells z.cells (grownCap w m 0 el - m)) el), news.toArray ++ Builtin.zeroCells z.cells (grownCap w m 0 el - m), by rw [Nat.zero_add]; exact hr, by rw [Nat.zero_add]; exact grownCap_ge w m 0 el, rfl, rfl, rfl, rfl, ?_, fun j v hj => ?_⟩
    · have := grownCap_ge w m 0 el
      simp only [Array.size_append, List.size_toArray, size_zeroCells, hzs, hl, ← Nat.add_mul]
      congr 1; omega
    · have hlt := (List.getElem?_eq_some_iff.1 hj).1
      simp only [List.nil_append] at hj hlt
      rw [Array.getElem?_append_left (by simpa using hlt)]
      simpa using hj
  | some b =>
    have hr := run_append_grow (P := P) w t ty el ie z ht hi hz b n cap olds hlo (hcell b rfl) a m c news hl hnews hg (by omega) (growslice_fits hg hby)
    refine ⟨_, _, _, hr, grownCap_ge w (n + m) cap el, rfl, rfl, rfl, rfl, ?_, fun j v hj => ?_⟩
    · have := grownCap_ge w (n + m) cap el
      simp only [Array.size_append, List.size_toArray, size_zeroCells, hzs, hlo, hl, ← Nat.add_mul]
      congr 1; omega
    · have hlt := (List.getElem?_eq_some_iff.1 hj).1
      rw [Array.getElem?_append_left (by simpa using hlt)]
      have : (olds.toArray ++ news.toArray)[j]? = (olds ++ news)[j]? := by simp
      rw [this]; exact hj
theorem app_room (ht : P.underlying t = some (.slice el)) (hi : P.info? el = some ie) (g n cap : Nat) (cur : Array Value) (e' : TypeId) (w : World) (hg : w.heap[g]? = some (.cells cur e' (0, 0)))
    (a : Addr) (m c : Nat) (news : List Value) (hl : news.length = m * ie.size) (hnews : ∀ (j : Nat) (v : Value), news[j]? = some v → w.cell? (a.add j) = some v) (h1 : ∀ u ∈ news, u.oneCell' = true) (hroom : n + m ≤ cap) (hfit : n * ie.size + news.length ≤ cur.size) :
    (Builtin.append_ #[t, t] ty #[.slice (some ⟨g, 0, none⟩) n cap, .slice (some a) m c]).run P w =
      .ok (.slice (some ⟨g, 0, none⟩) (n + m) cap) (w.setRow g (cur.toList.take (n * ie.size) ++ news ++ cur.toList.drop (n * ie.size + news.length)).toArray) := by
  have hf := run_firstCells_some (P := P) w ie.size m a m c news hl hnews
  have hst := run_storeCells_at P g (n * ie.size) e' news 0 cur w hg (by simpa using hfit) h1
  simp only [Nat.add_zero] at hst
  simp [Builtin.append_, run_underlying ht, sizeOf, typeInfo, hi, Builtin.lenOf, hroom, hf, Addr.add_lit, hst]
end
theorem Inv.recell {Γ : Ctx} {ρ : Ren} {h : Heap} {w : World} (hI : Inv Γ ρ h w) {b : Nat} {blk : Blk} (hb : h.get b = .live blk) (cells : Cells) (hlen : cells.len ≤ blk.cells.len) (hc : ∀ c, ρ b = some c → CellsAt ρ w c.1 c.2.1 cells) : Inv Γ ρ (h.upd b (.live { blk with cells })) w := by
  have ent : ∀ x xb, (h.upd b (.live { blk with cells })).get x = .live xb → (x ≠ b ∧ h.get x = .live xb) ∨ (x = b ∧ xb = { blk with cells }) := fun x xb hx => by
    rw [Heap.get_upd] at hx
    by_cases hxb : x = b
    · rw [if_pos hxb] at hx; injection hx with hx; exact .inr ⟨hxb, hx.symm⟩
    · rw [if_neg hxb] at hx; exact .inl ⟨hxb, hx⟩
  have sol : ∀ c, Blk.solid { blk with cells } c → blk.solid c := fun c hs => by
    rcases hs with hs | hs
    · have hs : 0 < cells.len := hs
      exact .inl (by omega)
    · exact .inr hs
  refine ⟨⟨?_, ?_, ?_, ?_, ?_, ?_, hI.sim.baseLe, hI.sim.old, ?_⟩, hI.agree, hI.sameBase, hI.os, hI.tape, hI.output, hI.size, hI.keep, ?_⟩
  · intro x xb hx
    rcases ent x xb hx with ⟨h1, h2⟩ | ⟨h1, h2⟩
    · exact hI.sim.some_ x xb h2
    · rw [h1]; exact hI.sim.some_ b blk hb
  · intro x xb c hx hcx
    rcases ent x xb hx with ⟨h1, h2⟩ | ⟨h1, h2⟩
    · exact hI.sim.cells x xb c h2 hcx
    · subst h1; subst h2; exact hc c hcx
  · intro x xb c hx hcx hs
    rcases ent x xb hx with ⟨h1, h2⟩ | ⟨h1, h2⟩
    · exact hI.sim.inside x xb c h2 hcx hs
    · subst h1; subst h2; exact hI.sim.inside x blk c hb hcx (sol c hs)
  · intro x xb c hx hcx hr hs
    rcases ent x xb hx with ⟨h1, h2⟩ | ⟨h1, h2⟩
    · exact hI.sim.own x xb c h2 hcx hr hs
    · subst h1; subst h2
      obtain ⟨k1, cs, el, k2, k3, k4⟩ := hI.sim.own x blk c hb hcx hr (sol c hs)
      exact ⟨k1, cs, el, k2, Nat.le_trans hlen k3, k4⟩
  · intro x y xb yb c d hx hy hne hcx hcy hr hs hs'
    rcases ent x xb hx with ⟨h1, h2⟩ | ⟨h1, h2⟩
    · rcases ent y yb hy with ⟨k1, k2⟩ | ⟨k1, k2⟩
      · exact hI.sim.apart x y xb yb c d h2 k2 hne hcx hcy hr hs hs'
      · subst k1; subst k2; exact hI.sim.apart x y xb blk c d h2 hb hne hcx hcy hr hs (sol d hs')
    · subst h1; subst h2
      rcases ent y yb hy with ⟨k1, k2⟩ | ⟨k1, k2⟩
      · exact hI.sim.apart x y blk yb c d hb k2 hne hcx hcy hr (sol c hs) hs'
      · exact absurd k1.symm hne
  · intro x hx
    rw [Heap.get_upd] at hx
    split at hx
    · cases hx
    · exact hI.sim.dom x hx
  · intro x xb c hx hcx hr hs
    rcases ent x xb hx with ⟨h1, h2⟩ | ⟨h1, h2⟩
    · exact hI.sim.above x xb c h2 hcx hr hs
    · subst h1; subst h2; exact hI.sim.above x blk c hb hcx hr (sol c hs)
  · intro x xb c hx hcx hr hs
    rcases ent x xb hx with ⟨h1, h2⟩ | ⟨h1, h2⟩
    · exact hI.fresh x xb c h2 hcx hr hs
    · subst h1; subst h2; exact hI.fresh x blk c hb hcx hr (sol c hs)
def ifK {β : Type} (b : Bool) (K : Option β) : Option β := bif b then K else none
theorem ifK_some {β : Type} {b : Bool} {K : Option β} {r : β} (h : ifK b K = some r) : b = true ∧ K = some r := by
  cases b
  · simp [ifK] at h
  · exact ⟨rfl, h⟩
def srcP (H : Nat → Ent) (size : Nat) : AV → Option (Cells × Nat × List Nat × Bool)
  | .val (.slice none 0 0) => some (.lit [], 0, [], true)
  | .slc b o m cp => (match H b with
    | .live blk => (match partC size cp blk.cells o m with
      | some (c, q) => some (c, m, [b], q)
      | none => none)
    | _ => none)
  | _ => none
def dstP (H : Nat → Ent) (size : Nat) : AV → Option (Cells × Nat × List Nat × Bool × Option Nat)
  | .val (.slice none 0 0) => some (.lit [], 0, [], true, none)
  | .slc b o n (.exact c) => if c = n then (match H b with
    | .live blk => (match partC size (.exact c) blk.cells o n with
      | some (d, q) => some (d, n, [b], q, none)
      | none => none)
    | _ => none) else none
  | .slc b 0 n .unk => (match H b with
    | .live blk => if blk.rw = true ∧ blk.grow = some size then (match partC size .unk blk.cells 0 n with
      | some (d, q) => some (d, n, [b], q, some b)
      | none => none) else none
    | _ => none)
  | _ => none
theorem srcP_ok {ρ : Ren} {h : Heap} {w : World} (hs : Sim ρ h w) {H : Nat → Ent} {size : Nat} (hsz : 0 < size) {a : AV} {sv : Value} (hv : VR ρ a sv) {c : Cells} {m : Nat} {bs : List Nat} {q : Bool} (hp : srcP H size a = some (c, m, bs, q)) (hH : ∀ b ∈ bs, h.get b = H b) (hq : q = true) :
    ∃ ad cp us, sv = .slice ad m cp ∧ CRel ρ c us ∧ us.length = m * size ∧ (∀ v ∈ us, v.oneCell' = true) ∧ (0 < m → ∃ a, ad = some a ∧ ∀ (j : Nat) (v : Value), us[j]? = some v → w.cell? (a.add j) = some v) := by
  unfold srcP at hp
  split at hp
  · injection hp with hp; injection hp with e1 e2; injection e2 with e2 e3; subst e1; subst e2
    simp only [VR] at hv
    exact ⟨none, 0, [], hv, by simp [CRel, VRs], by simp, by simp, fun h => by omega⟩
  · rename_i b o m' cp
    split at hp
    case h_2 => cases hp
    rename_i blk hblk
    split at hp
    case h_2 => cases hp
    rename_i c' q' hpc
    injection hp with hp; injection hp with e1 e2; injection e2 with e2 e3; injection e3 with e3 e4
    subst e1; subst e2; subst e3; subst e4
    have hb : h.get b = .live blk := by rw [hH b (by simp)]; exact hblk
    rcases hv.slc_cases with ⟨cb, co, cc, c2, h1, h2, h3⟩ | ⟨h1, a2, h2⟩
    · obtain ⟨us, k1, k2, k3, k4⟩ := partC_ok hsz hpc hq (hs.cells b blk _ hb h1)
      exact ⟨_, _, us, h3, k1, k2, k3, fun _ => ⟨_, rfl, fun j v hj => by rw [add_lit]; exact k4 j v hj⟩⟩
    · obtain ⟨d, hd⟩ := hs.some_ b blk hb
      obtain ⟨us, k1, k2, k3, k4⟩ := partC_ok hsz hpc hq (hs.cells b blk _ hb hd)
      subst h1
      exact ⟨_, _, us, h2, k1, k2, k3, fun h => by omega⟩
  · cases hp
theorem dstP_ok {ρ : Ren} {h : Heap} {w : World} (hs : Sim ρ h w) {H : Nat → Ent} {size : Nat} (hsz : 0 < size) {a : AV} {dv : Value} (hv : VR ρ a dv) {c : Cells} {n : Nat} {bs : List Nat} {q : Bool} {kill : Option Nat} (hp : dstP H size a = some (c, n, bs, q, kill)) (hH : ∀ b ∈ bs, h.get b = H b) (hq : q = true) :
    ∃ base cap us, dv = .slice base n cap ∧ n ≤ cap ∧ CRel ρ c us ∧ us.length = n * size ∧ (base = none → n = 0 ∧ cap = 0) ∧ (∀ b, base = some b → ∀ (j : Nat) (v : Value), us[j]? = some v → w.cell? (b.add j) = some v) ∧ (kill = none → cap = n) ∧
      (∀ b, kill = some b → ∃ blk, h.get b = .live blk ∧ blk.rw = true ∧ blk.grow = some size ∧ n * size ≤ blk.cells.len ∧ ((∃ cb cc, ρ b = some (cb, 0, cc) ∧ base = some ⟨cb, 0, none⟩ ∧ cap = cc) ∨ (n = 0 ∧ cap = 0))) := by
  have plen : ∀ {cp : Cap} {cells c : Cells} {o m : Nat} {q : Bool}, partC size cp cells o m = some (c, q) → q = true → m * size ≤ cells.len := fun {cp cells c o m q} h hq => by
    cases cells with
    | lit l =>
      simp only [partC] at h
      split at h
      case isFalse => cases h
      rename_i hc; show _ ≤ l.length; omega
    | arr s l =>
      simp only [partC] at h
      split at h
      case isFalse => cases h
      rename_i hc
      show _ ≤ (s.flatl l).length
      rw [flatl_length s hc.1, hc.2]
      split at h
      · split at h
        case isFalse => cases h
        injection h with h; injection h with h1 h2; subst h2
        have hq : o + m ≤ l.length := by simpa using hq
        exact Nat.mul_le_mul_right _ (by omega)
      split at h
      · injection h with h; injection h with h1 h2; subst h2
        have hq : m = l.length := by simpa using hq
        rw [hq]; omega
      · split at h
        case isFalse => cases h
        injection h with h; injection h with h1 h2; subst h2
        rename_i o' _
        have hq : o' + 1 + m ≤ l.length := by simpa using hq
        exact Nat.mul_le_mul_right _ (by omega)
    | sym l => simp [partC] at h
    | rows l => simp [partC] at h
    | arrs s l => simp [partC] at h
  unfold dstP at hp
  split at hp
  · injection hp with hp; injection hp with e1 e2; injection e2 with e2 e3; injection e3 with e3 e4; injection e4 with e4 e5
    subst e1; subst e2; subst e5
    simp only [VR] at hv
    exact ⟨none, 0, [], hv, Nat.le_refl _, by simp [CRel, VRs], by simp, fun _ => ⟨rfl, rfl⟩, fun b hb => (by cases hb), fun _ => rfl, fun b hb => by cases hb⟩
  · rename_i b o n' cp
    split at hp
    case isFalse => cases hp
    rename_i hcn
    split at hp
    case h_2 => cases hp
    rename_i blk hblk
    split at hp
    case h_2 => cases hp
    rename_i c' q' hpc
    injection hp with hp; injection hp with e1 e2; injection e2 with e2 e3; injection e3 with e3 e4; injection e4 with e4 e5
    subst e1; subst e2; subst e3; subst e4; subst e5
    have hb : h.get b = .live blk := by rw [hH b (by simp)]; exact hblk
    simp only [VR] at hv
    rcases hv with ⟨cb, co, cc, h1, h2, h3⟩ | ⟨h1, h4, a2, h2⟩
    · obtain ⟨us, k1, k2, k3, k4⟩ := partC_ok hsz hpc hq (hs.cells b blk _ hb h1)
      exact ⟨_, _, us, h3, h2, k1, k2, fun h => (by cases h), fun b' hb' j v hj => by injection hb' with hb'; subst hb'; rw [add_lit]; exact k4 j v hj, fun _ => hcn, fun b hb => by cases hb⟩
    · obtain ⟨d, hd⟩ := hs.some_ b blk hb
      obtain ⟨us, k1, k2, k3, k4⟩ := partC_ok hsz hpc hq (hs.cells b blk _ hb hd)
      subst h1
      have hus : us = [] := List.length_eq_zero_iff.1 (by simpa using k2)
      exact ⟨_, _, us, h2, Nat.le_refl _, k1, k2, fun _ => ⟨rfl, rfl⟩, fun b' hb' j v hj => by rw [hus] at hj; simp at hj, fun _ => rfl, fun b hb => by cases hb⟩
  · rename_i b n'
    split at hp
    case h_2 => cases hp
    rename_i blk hblk
    split at hp
    case isFalse => cases hp
    rename_i hrw
    split at hp
    case h_2 => cases hp
    rename_i c' q' hpc
    injection hp with hp; injection hp with e1 e2; injection e2 with e2 e3; injection e3 with e3 e4; injection e4 with e4 e5
    subst e1; subst e2; subst e3; subst e4; subst e5
    have hb : h.get b = .live blk := by rw [hH b (by simp)]; exact hblk
    have hl := plen hpc hq
    simp only [VR] at hv
    rcases hv with ⟨cb, co, cc, c2, h1, h2, ⟨h5, h6⟩, h3⟩ | ⟨h1, a2, h2⟩
    · have h5 : co = 0 := by omega
      subst h5; subst h6
      obtain ⟨us, k1, k2, k3, k4⟩ := partC_ok hsz hpc hq (hs.cells b blk _ hb h1)
      exact ⟨_, _, us, h3, h2, k1, k2, fun h => (by cases h), fun b' hb' j v hj => by injection hb' with hb'; subst hb'; rw [add_lit]; exact k4 j v hj, fun h => (by cases h), fun b' hb' => by
        injection hb' with hb'; subst hb'; exact ⟨blk, hb, hrw.1, hrw.2, hl, .inl ⟨cb, _, h1, rfl, rfl⟩⟩⟩
    · obtain ⟨d, hd⟩ := hs.some_ b blk hb
      obtain ⟨us, k1, k2, k3, k4⟩ := partC_ok hsz hpc hq (hs.cells b blk _ hb hd)
      subst h1
      have hus : us = [] := List.length_eq_zero_iff.1 (by simpa using k2)
      exact ⟨_, _, us, h2, Nat.le_refl _, k1, k2, fun _ => ⟨rfl, rfl⟩, fun b' hb' j v hj => by rw [hus] at hj; simp at hj, fun h => (by cases h), fun b' hb' => by
        injection hb' with hb'; subst hb'; exact ⟨blk, hb, hrw.1, hrw.2, hl, .inr ⟨rfl, rfl⟩⟩⟩
  · cases hp
def shOf (P : Program) : Nat → TypeId → Option Sh
  | 0, _ => none
  | f + 1, t => match P.underlying t with
    | some (.int k) => some (.int k)
    | some .bool => some .bool
    | some .string => some .str
    | some (.array n e) => (shOf P f e).map fun s => .st (List.replicate n s)
    | some (.struct fs) => (fs.toList.mapM fun fd => shOf P f fd.type).map .st
    | _ => none
def arrOf (P : Program) (el : TypeId) (n : Nat) : Cells → Cells
  | .lit l => (match shOf P 6 el with
    | some s => if s.flat = true then (match decAll s n l with
      | some xs => .arr s xs
      | none => .lit l) else .lit l
    | none => .lit l)
  | c => c
theorem arrOf_ok {P : Program} {el : TypeId} {n : Nat} {c : Cells} {ρ : Ren} {us : List Value} (h : CRel ρ c us) : CRel ρ (arrOf P el n c) us := by
  unfold arrOf
  split
  · rename_i l
    split
    · rename_i s _
      split
      · rename_i hf
        split
        · rename_i xs hxs
          exact decAll_ok hf hxs h
        · exact h
      · exact h
    · exact h
  · exact h
def killB : Option Nat → List (Nat × Ent)
  | some b => [(b, .dead)]
  | none => []
def appEff (size : Nat) (bs : List Nat) (kill : Option Nat) (new n m : Nat) (c : Cells) : Eff :=
  { rb := bs, wb := killB kill ++ [(new, .live { cells := c, rw := true, grow := some size })], nw := 1, val := .slc new 0 (n + m) .unk }
def appK {β : Type} (P : Program) (t : TypeId) (a0 a1 : AV) (H : Nat → Ent) (new : Nat) (K : Eff → Option β) : Option β :=
  match P.underlying t with
  | some (.slice el) => (match P.info? el with
    | none => none
    | some ie => (match ie.zero with
      | none => none
      | some z => if z.cells.size = ie.size ∧ 0 < ie.size then (match dstP H ie.size a0 with
        | none => none
        | some (c1, n, bs1, q1, kill) => (match srcP H ie.size a1 with
          | none => none
          | some (c2, m, bs2, q2) => (match joinCells n m c1 c2 with
            | none => none
            | some c => ifK (q1 && (q2 && ((match kill with
                | some _ => true
                | none => decide (n = 0) || decide (0 < m)) && (decide ((n + m) * ie.bytes ≤ 140737488355328) && decide (n + m ≤ 9223372036854775807))))) (K (appEff ie.size (bs1 ++ bs2) kill new n m (arrOf P el (n + m) c)))))) else none))
  | _ => none
theorem run_append_op {P : Program} {o : Oper} {C : Operand → Value} {x y : Operand} {t : TypeId} (ho : o.op = .call { callee := .builtin .append, args := #[x, y], argTypes := #[t, t] }) {w w' : World} {v : Value} (h : (Builtin.append_ #[t, t] o.type #[C x, C y]).run P w = .ok v w') :
    (execOp C o).run P w = .ok (.value v) w' := by
  simp only [execOp, ho, resolve]
  show ((do pure (Next.value (← Builtin.append_ #[t, t] o.type (#[x, y].map C)))) : Sem Next).run P w = _
  have e : #[x, y].map C = #[C x, C y] := by simp
  rw [e]
  exact run_v h
theorem appK_ok {β : Type} {P : Program} {o : Oper} {t : TypeId} {x y : Operand} (hop : o.op = .call { callee := .builtin .append, args := #[x, y], argTypes := #[t, t] }) {E : Operand → AV} {H : Nat → Ent} {new : Nat} {K : Eff → Option β} {r : β} (h : appK P t (E x) (E y) H new K = some r) :
    ∃ e, K e = some r ∧ ∀ (Γ : Ctx) (ρ : Ren) (hp : Heap) (w : World) (a : Act), Inv Γ ρ hp w → (∀ z ∈ o.op.operands, VR ρ (E z) (a.eval z)) → (∀ b ∈ e.rb, hp.get b = H b) → Γ.n0 ≤ new → (∀ z, new ≤ z → z < new + e.nw → hp.get z = .free) → OpOK P Γ ρ hp w (execOp a.eval o) e := by
  unfold appK at h
  split at h
  case h_2 => cases h
  rename_i el ht
  split at h
  · cases h
  rename_i ie hi
  split at h
  · cases h
  rename_i z hz
  split at h
  case isFalse => cases h
  rename_i hzs
  split at h
  · cases h
  rename_i c1 n bs1 q1 kill hd
  split at h
  · cases h
  rename_i c2 m bs2 q2 hs
  split at h
  · cases h
  rename_i c0 hj
  obtain ⟨hq, hK⟩ := ifK_some h
  generalize hcc : arrOf P el (n + m) c0 = c at hK
  simp only [Bool.and_eq_true, decide_eq_true_eq] at hq
  obtain ⟨hq1, hq2, hkill, hby, h63⟩ := hq
  refine ⟨_, hK, fun Γ ρ hp w a hI hE hH hn hfree => ?_⟩
  have hH1 : ∀ b ∈ bs1, hp.get b = H b := fun b hb => hH b (List.mem_append.2 (.inl hb))
  have hH2 : ∀ b ∈ bs2, hp.get b = H b := fun b hb => hH b (List.mem_append.2 (.inr hb))
  have hfr : hp.get new = .free := hfree new (Nat.le_refl _) (by simp [appEff])
  obtain ⟨base, cap, us1, d1, d2, d3, d4, d5, d6, d7, d8⟩ := dstP_ok hI.sim hzs.2 (hE x (by simp [hop, Op.operands, Call.operands])) hd hH1 hq1
  obtain ⟨ad, cp, us2, s1, s2, s3, s4, s5⟩ := srcP_ok hI.sim hzs.2 (hE y (by simp [hop, Op.operands, Call.operands])) hs hH2 hq2
  have hrel : CRel ρ c (us1 ++ us2) := hcc ▸ arrOf_ok (joinCells_ok hj d3 s2)
  have hclen : c.len = (n + m) * ie.size := by rw [hrel.len, List.length_append, d4, s3, Nat.add_mul]
  -- what the two ends have in common
  have done : ∀ (v : Value) (w' : World) (ρ' : Ren), (Builtin.append_ #[t, t] o.type #[a.eval x, a.eval y]).run P w = .ok v w' → ρ.le ρ' → VR ρ' (.slc new 0 (n + m) .unk) v → Inv Γ ρ' ((hp.upds (killB kill)).upd new (.live { cells := c, rw := true, grow := some ie.size })) w' → OpOK P Γ ρ hp w (execOp a.eval o) (appEff ie.size (bs1 ++ bs2) kill new n m c) := by
    intro v w' ρ' h1 h2 h3 h4
    refine ⟨ρ', _, v, w', run_append_op hop h1, .inl rfl, h2, h3, ?_⟩
    have : hp.upds (appEff ie.size (bs1 ++ bs2) kill new n m c).wb = (hp.upds (killB kill)).upd new (.live { cells := c, rw := true, grow := some ie.size }) := by
      cases kill <;> rfl
    rw [this]; exact h4
  have kI : Inv Γ ρ (hp.upds (killB kill)) w := by
    cases kill with
    | none => exact hI
    | some b => exact hI.kill b
  have kfr : (hp.upds (killB kill)).get new = .free := by
    cases kill with
    | none => exact hfr
    | some b =>
      obtain ⟨blk, hb, _⟩ := d8 b rfl
      show (hp.upd b .dead).get new = .free
      rw [Heap.get_upd, if_neg (fun e => by rw [← e, hfr] at hb; cases hb)]; exact hfr
  have empty : n + m = 0 → ∀ ρ w cb co, CellsAt ρ w cb co c := fun h0 ρ1 w1 cb co => by
    have hl : c.len = 0 := by rw [hclen, h0, Nat.zero_mul]
    cases c with
    | lit l => have : l = [] := List.length_eq_zero_iff.1 hl
               subst this; intro i v hi; simp at hi
    | arr s l => have : s.flatl l = [] := List.length_eq_zero_iff.1 hl
                 intro i v hi; rw [this] at hi; simp at hi
    | _ => exact absurd hrel (by simp [CRel])
  by_cases hm : m = 0
  · subst hm
    have hrun := app_same (ty := o.type) ht hi base n cap d2 ad cp w
    rw [← d1, ← s1] at hrun
    have nothing : n = 0 → cap = 0 → OpOK P Γ ρ hp w (execOp a.eval o) (appEff ie.size (bs1 ++ bs2) kill new n 0 c) := fun h0 hc0 => by
      obtain ⟨g1, g2⟩ := kI.addEmpty hn kfr c (by rw [hclen, h0, Nat.zero_mul]) (empty (by omega)) (some ie.size)
      refine done _ w _ hrun g1 ?_ g2
      simp only [VR]
      exact .inr ⟨by omega, base, by rw [d1, h0, hc0]⟩
    cases hk : kill with
    | none =>
      rw [hk] at hkill
      simp only [Bool.or_eq_true, decide_eq_true_eq] at hkill
      have h0 : n = 0 := by omega
      rw [← hk]
      exact nothing h0 (by rw [d7 hk, h0])
    | some b =>
      obtain ⟨blk, hb, hrw, hgrow, hlen, hcase⟩ := d8 b hk
      rw [← hk]
      rcases hcase with ⟨cb, cc, k1, k2, k3⟩ | ⟨k1, k2⟩
      · have hus2 : us2 = [] := List.length_eq_zero_iff.1 (by simpa using s3)
        have hca : ∀ d, ρ b = some d → CellsAt ρ w d.1 d.2.1 c := fun d hd => by
          rw [k1] at hd; injection hd with hd; subst hd
          rw [hus2, List.append_nil] at hrel
          exact hrel.at_ fun j v hj => by
            have := d6 ⟨cb, 0, none⟩ k2 j v hj
            rw [add_lit] at this; exact this
        have hR := hI.recell hb c (by rw [hclen]; simpa using hlen) hca
        obtain ⟨g1, g2⟩ := hR.move (b := b) (new := new) (by rw [Heap.get_upd, if_pos rfl]) k1 hn (by rw [Heap.get_upd, if_neg (fun e => by rw [← e, hfr] at hb; cases hb)]; exact hfr)
        refine done _ w _ hrun g1 ?_ (g2.congr fun x => ?_)
        · simp only [VR]
          exact .inl ⟨cb, 0, cc, cap, by simp [Ren.put], by omega, ⟨rfl, k3⟩, by rw [d1, k2]; rfl⟩
        · rw [hk]
          have e : ({ blk with cells := c } : Blk) = { cells := c, rw := true, grow := some ie.size } := by
            cases blk; simp at hrw hgrow; simp [hrw, hgrow]
          show ((hp.upd b .dead).upd new _).get x = (((hp.upd b _).upd b .dead).upd new _).get x
          rw [e]
          simp only [Heap.get_upd]
          by_cases h1 : x = new
          · simp [h1]
          · by_cases h2 : x = b
            · simp [h1, h2]
            · simp [h1, h2]
      · exact nothing k1 k2
  · have hm : 0 < m := by omega
    obtain ⟨ad', rfl, hnews⟩ := s5 hm
    by_cases hroom : n + m ≤ cap
    · -- there is room
      have hkb : ∃ b, kill = some b := by
        cases hk : kill with
        | none => have := d7 hk; omega
        | some b => exact ⟨b, rfl⟩
      obtain ⟨b, hk⟩ := hkb
      obtain ⟨blk, hb, hrw, hgrow, hlen, hcase⟩ := d8 b hk
      rcases hcase with ⟨cb, cc, k1, k2, k3⟩ | ⟨k1, k2⟩
      · subst k3
        have hsol : blk.solid (cb, 0, cap) := .inr ⟨hrw, by show 0 < cap; omega⟩
        obtain ⟨_, cs, e', q1, q2, q3⟩ := hI.sim.own b blk _ hb k1 hrw hsol
        have q1 : w.heap[cb]? = some (.cells cs e' (0, 0)) := q1
        have q3 : cs.size = cap * ie.size := q3 ie.size hgrow
        have hfit : n * ie.size + us2.length ≤ cs.size := by
          rw [s3, q3, ← Nat.add_mul]; exact Nat.mul_le_mul_right _ hroom
        have hrun := app_room (P := P) (ty := o.type) ht hi cb n cap cs e' w q1 ad' m cp us2 s3 hnews s4 hroom hfit
        rw [← k2, ← d1, ← s1] at hrun
        have hcell : ∀ i, w.cell? ⟨cb, i, none⟩ = cs[i]? := fun i => by simp [World.cell?, q1]
        have hnew : ∀ i, (w.setRow cb (cs.toList.take (n * ie.size) ++ us2 ++ cs.toList.drop (n * ie.size + us2.length)).toArray).cell? ⟨cb, i, none⟩ = (cs.toList.take (n * ie.size) ++ us2 ++ cs.toList.drop (n * ie.size + us2.length)).toArray[i]? := fun i => cell_setRow w cb cs _ e' q1 i
        have htake : cs.toList.take (n * ie.size) = us1 := by
          apply List.ext_getElem?
          intro j
          rw [List.getElem?_take]
          split
          · rename_i hjl
            have hju : j < us1.length := by omega
            have := d6 ⟨cb, 0, none⟩ k2 j us1[j] (List.getElem?_eq_getElem hju)
            rw [add_lit, hcell, Nat.zero_add] at this
            rw [List.getElem?_eq_getElem hju, ← this]; simp
          · rw [List.getElem?_eq_none (by omega)]
        have hca : CellsAt ρ (w.setRow cb (cs.toList.take (n * ie.size) ++ us2 ++ cs.toList.drop (n * ie.size + us2.length)).toArray) cb 0 c := hrel.at_ fun j v hj => by
          rw [Nat.zero_add, hnew]
          simp only [List.getElem?_toArray]
          rw [htake, List.getElem?_append_left (List.getElem?_eq_some_iff.1 hj).1]
          exact hj
        have hW := hI.write hb hrw k1 hsol cs e' q1 (cs.toList.take (n * ie.size) ++ us2 ++ cs.toList.drop (n * ie.size + us2.length)).toArray (by simp; omega) c (setRow_set w cb cs _ e' q1) rfl rfl rfl hca (by rw [hclen, q3]; exact Nat.mul_le_mul_right _ hroom)
        obtain ⟨g1, g2⟩ := hW.move (b := b) (new := new) (by rw [Heap.get_upd, if_pos rfl]) k1 hn (by rw [Heap.get_upd, if_neg (fun e => by rw [← e, hfr] at hb; cases hb)]; exact hfr)
        refine done _ _ _ hrun g1 ?_ (g2.congr fun x => ?_)
        · simp only [VR]
          exact .inl ⟨cb, 0, cap, cap, by simp [Ren.put], hroom, ⟨rfl, rfl⟩, by rw [k2]⟩
        · rw [hk]
          have e : ({ blk with cells := c } : Blk) = { cells := c, rw := true, grow := some ie.size } := by
            cases blk; simp at hrw hgrow; simp [hrw, hgrow]
          show ((hp.upd b .dead).upd new _).get x = (((hp.upd b _).upd b .dead).upd new _).get x
          rw [e]
          simp only [Heap.get_upd]
          by_cases h1 : x = new
          · simp [h1]
          · by_cases h2 : x = b
            · simp [h1, h2]
            · simp [h1, h2]
      · omega
    · -- it grows
      obtain ⟨g, w', cs, r1, r2, r3, r4, r5, r6, r7, r8⟩ := app_grow (P := P) (ty := o.type) ht hi hz hzs.1 base n cap d5 us1 d4 w d6 ad' m cp us2 s3 hnews hm (by omega) h63 hby
      rw [← d1, ← s1] at r1
      have hca : CellsAt ρ w' w.heap.size 0 c := hrel.at_ fun j v hj => by
        have : w'.heap[w.heap.size]? = some (.cells cs el (0, 0)) := by rw [r3]; simp
        rw [Nat.zero_add]
        simp only [World.cell?, this]
        exact r8 j v hj
      obtain ⟨g1, g2⟩ := kI.alloc hn kfr cs el c (some ie.size) g r3 r4 r5 r6 hca (by rw [hclen, r7]; exact Nat.mul_le_mul_right _ r2) (fun sz hsz => by injection hsz with hsz; subst hsz; exact r7)
      refine done _ w' _ r1 g1 ?_ g2
      simp only [VR]
      exact .inl ⟨w.heap.size, 0, g, g, by simp [Ren.put], r2, ⟨rfl, rfl⟩, rfl⟩
end Go.Ab
