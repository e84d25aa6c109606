/-
  CORE 12: a region that draws its order: if no two operations that may change places touch each other's slots and blocks, every order ends as the text's.
-/
import Derived.Test.YtiikkepnpidilaaCore11
set_option linter.unusedVariables false
set_option linter.unusedSimpArgs false
namespace Go.Ab

def lastW : List (Nat × Ent) → Nat → Option Ent
  | [], _ => none
  | (b, e) :: l, x => (lastW l x).or (if x = b then some e else none)
theorem get_upds' : ∀ (wb : List (Nat × Ent)) (h : Heap) (x : Nat), (h.upds wb).get x = (lastW wb x).getD (h.get x)
  | [], h, x => rfl
  | (b, e) :: wb, h, x => by
    simp only [Heap.upds, lastW]
    rw [get_upds' wb, Heap.get_upd]
    cases lastW wb x with
    | some e' => simp
    | none =>
      by_cases hx : x = b
      · simp [hx]
      · simp [hx]
def Did.writes (d : Did) (x : Nat) : Prop := lastW d.wb x ≠ none

/-! ### the state behind a set of operations -/
def foldT (S : Nat → Bool) : Nat → List Did → List AV → List AV
  | _, [], t => t
  | i, d :: l, t => foldT S (i + 1) l (if S i = true then d.t t else t)
def foldH (S : Nat → Bool) : Nat → List Did → Heap → Heap
  | _, [], h => h
  | i, d :: l, h => foldH S (i + 1) l (if S i = true then d.h h else h)

theorem putT_length (t : List AV) (d : Option Nat) (v : AV) : (putT t d v).length = t.length := by cases d <;> simp [putT]
theorem foldT_length (S : Nat → Bool) : ∀ (l : List Did) (i : Nat) (t : List AV), (foldT S i l t).length = t.length
  | [], i, t => rfl
  | d :: l, i, t => by
    simp only [foldT]
    rw [foldT_length S l]
    split
    · exact putT_length ..
    · rfl

theorem putT_get (t : List AV) (d : Option Nat) (v : AV) (s : Nat) (h : d ≠ some s) : (putT t d v)[s]? = t[s]? := by
  cases d with
  | none => rfl
  | some d => simp only [putT]; rw [List.getElem?_set_ne (fun e => h (by rw [e]))]

theorem foldT_agree (S S' : Nat → Bool) (s : Nat) : ∀ (l : List Did) (i : Nat) (t t' : List AV), t.length = t'.length → t[s]? = t'[s]? → (∀ k d, l[k]? = some d → S (i + k) ≠ S' (i + k) → d.ws ≠ some s) → (foldT S i l t)[s]? = (foldT S' i l t')[s]?
  | [], i, t, t', _, h, _ => h
  | d :: l, i, t, t', hl, h, hd => by
    simp only [foldT]
    refine foldT_agree S S' s l (i + 1) _ _ ?_ ?_ (fun k d' hk hne => hd (k + 1) d' (by simpa using hk) (by rw [show i + (k + 1) = i + 1 + k by omega]; exact hne))
    · split <;> split <;> simp [Did.t, putT_length, hl]
    · have h0 := hd 0 d rfl
      simp only [Nat.add_zero] at h0
      by_cases hw : d.ws = some s
      · by_cases hS : S i = S' i
        · rw [hS]
          split
          · simp only [Did.t, hw, putT]
            by_cases hlt : s < t.length
            · rw [List.getElem?_set_self hlt, List.getElem?_set_self (by omega)]
            · rw [List.getElem?_eq_none (by simp; omega), List.getElem?_eq_none (by simp; omega)]
          · exact h
        · exact absurd hw (h0 hS)
      · have e : ∀ (u : List AV), (d.t u)[s]? = u[s]? := fun u => putT_get u d.ws d.val s hw
        split <;> split <;> simp only [e, h]

theorem foldH_agree (S S' : Nat → Bool) (x : Nat) : ∀ (l : List Did) (i : Nat) (h h' : Heap), h.get x = h'.get x → (∀ k d, l[k]? = some d → S (i + k) ≠ S' (i + k) → ¬ d.writes x) → (foldH S i l h).get x = (foldH S' i l h').get x
  | [], i, h, h', he, _ => he
  | d :: l, i, h, h', he, hd => by
    simp only [foldH]
    refine foldH_agree S S' x l (i + 1) _ _ ?_ (fun k d' hk hne => hd (k + 1) d' (by simpa using hk) (by rw [show i + (k + 1) = i + 1 + k by omega]; exact hne))
    have h0 := hd 0 d rfl
    simp only [Nat.add_zero] at h0
    by_cases hw : d.writes x
    · by_cases hS : S i = S' i
      · rw [hS]
        split
        · simp only [Did.h, get_upds', he]
        · exact he
      · exact absurd hw (h0 hS)
    · have e : ∀ (u : Heap), (d.h u).get x = u.get x := fun u => by
        simp only [Did.h, get_upds']
        unfold Did.writes at hw
        simp only [ne_eq, Decidable.not_not] at hw
        rw [hw]; rfl
      split <;> split <;> simp only [e, he]

/-- What the last writer wrote stands. -/
theorem foldT_last (S : Nat → Bool) (s : Nat) (d : Did) (hw : d.ws = some s) : ∀ (l : List Did) (i j : Nat) (t : List AV), l[j]? = some d → S (i + j) = true → (∀ k d', j < k → l[k]? = some d' → S (i + k) = true → d'.ws ≠ some s) → s < t.length → (foldT S i l t)[s]? = some d.val
  | [], i, j, t, h, _, _, _ => by simp at h
  | d0 :: l, i, 0, t, h, hS, hn, hlt => by
    simp at h; subst h
    simp only [Nat.add_zero] at hS
    simp only [foldT, hS, if_true]
    have := foldT_agree S (fun _ => false) s l (i + 1) (d0.t t) (d0.t t) rfl rfl (fun k d' hk hne => hn (k + 1) d' (by omega) (by simpa using hk) (by rw [show i + (k + 1) = i + 1 + k by omega]; simpa using hne))
    rw [this]
    have hid : ∀ (l : List Did) (i : Nat) (t : List AV), foldT (fun _ => false) i l t = t := by
      intro l; induction l with
      | nil => intros; rfl
      | cons d l ih => intro i t; simp [foldT, ih]
    rw [hid]
    simp only [Did.t, hw, putT]
    rw [List.getElem?_set_self hlt]
  | d0 :: l, i, j + 1, t, h, hS, hn, hlt => by
    simp only [foldT]
    refine foldT_last S s d hw l (i + 1) j _ (by simpa using h) (by rw [show i + 1 + j = i + (j + 1) by omega]; exact hS) (fun k d' hjk hk hs => hn (k + 1) d' (by omega) (by simpa using hk) (by rw [show i + (k + 1) = i + 1 + k by omega]; exact hs)) ?_
    split
    · simpa [Did.t, putT_length] using hlt
    · exact hlt

theorem foldH_last (S : Nat → Bool) (x : Nat) (d : Did) (e : Ent) (hw : lastW d.wb x = some e) : ∀ (l : List Did) (i j : Nat) (h : Heap), l[j]? = some d → S (i + j) = true → (∀ k d', j < k → l[k]? = some d' → S (i + k) = true → ¬ d'.writes x) → (foldH S i l h).get x = e
  | [], i, j, h, hl, _, _ => by simp at hl
  | d0 :: l, i, 0, h, hl, hS, hn => by
    simp at hl; subst hl
    simp only [Nat.add_zero] at hS
    simp only [foldH, hS, if_true]
    have := foldH_agree S (fun _ => false) x l (i + 1) (d0.h h) (d0.h h) rfl (fun k d' hk hne => hn (k + 1) d' (by omega) (by simpa using hk) (by rw [show i + (k + 1) = i + 1 + k by omega]; simpa using hne))
    rw [this]
    have hid : ∀ (l : List Did) (i : Nat) (h : Heap), foldH (fun _ => false) i l h = h := by
      intro l; induction l with
      | nil => intros; rfl
      | cons d l ih => intro i t; simp [foldH, ih]
    rw [hid]
    simp only [Did.h, get_upds', hw]; rfl
  | d0 :: l, i, j + 1, h, hl, hS, hn => by
    simp only [foldH]
    exact foldH_last S x d e hw l (i + 1) j _ (by simpa using hl) (by rw [show i + 1 + j = i + (j + 1) by omega]; exact hS) (fun k d' hjk hk hs => hn (k + 1) d' (by omega) (by simpa using hk) (by rw [show i + (k + 1) = i + 1 + k by omega]; exact hs))

/-! ### who waits for whom -/
def maskE (m : Nat) (acc : List Nat) : List Edge → Nat
  | [] => m
  | e :: es => maskE (if Region.binds .any e = true then m ||| (2 ^ e.on) ||| (acc.getD e.on 0) else m) acc es
/-- The masks of those ahead of each operation; none: an edge leads on. -/
def masks : List Oper → List Nat → Option (List Nat)
  | [], acc => some acc
  | o :: l, acc => if o.after.toList.all (fun e => !Region.binds .any e || decide (e.on < acc.length)) = true then masks l (acc ++ [maskE 0 acc o.after.toList]) else none

def Did.reads (d : Did) : List Nat := d.rb ++ List.range' d.new d.nw
def noconf (x y : Did) : Bool :=
  (match x.ws with
    | some d => !y.rs.contains d && y.ws != some d
    | none => true) &&
  (match y.ws with
    | some d => !x.rs.contains d
    | none => true) &&
  x.wb.all (fun p => !y.reads.contains p.1 && y.wb.all (fun q => q.1 != p.1)) && y.wb.all (fun p => !x.reads.contains p.1)

/-- Each with each ahead of it: one waits for the other, or they do not touch. -/
def confs (dids : List Did) (ms : List Nat) : Bool :=
  (dids.zip ms).zipIdx.all fun q => (dids.take q.2).zipIdx.all fun p => Nat.testBit q.1.2 p.2 || noconf p.1 q.1.1

theorem maskE_bit (acc : List Nat) (j : Nat) : ∀ (es : List Edge) (m : Nat), (maskE m acc es).testBit j = true → m.testBit j = true ∨ ∃ e ∈ es, Region.binds .any e = true ∧ (e.on = j ∨ (acc.getD e.on 0).testBit j = true)
  | [], m, h => .inl h
  | e :: es, m, h => by
    simp only [maskE] at h
    rcases maskE_bit acc j es _ h with h1 | ⟨e', he', hb, h2⟩
    · split at h1
      · rename_i hb
        simp only [Nat.testBit_or, Bool.or_eq_true, Nat.testBit_two_pow, decide_eq_true_eq] at h1
        rcases h1 with (h1 | h1) | h1
        · exact .inl h1
        · exact .inr ⟨e, List.mem_cons_self .., hb, .inl h1⟩
        · exact .inr ⟨e, List.mem_cons_self .., hb, .inr h1⟩
      · exact .inl h1
    · exact .inr ⟨e', List.mem_cons_of_mem _ he', hb, h2⟩

theorem masks_spec : ∀ (l : List Oper) (acc ms : List Nat), masks l acc = some ms → ms.length = acc.length + l.length ∧ (∀ k, k < acc.length → ms[k]? = acc[k]?) ∧
    (∀ k o, l[k]? = some o → (∀ e ∈ o.after, Region.binds .any e = true → e.on < acc.length + k) ∧ ∀ m, ms[acc.length + k]? = some m → ∀ j, m.testBit j = true → ∃ e ∈ o.after, Region.binds .any e = true ∧ (e.on = j ∨ ∃ m', ms[e.on]? = some m' ∧ m'.testBit j = true))
  | [], acc, ms, h => by
    simp [masks] at h; subst h
    exact ⟨by simp, fun k hk => rfl, fun k o hk => by simp at hk⟩
  | o :: l, acc, ms, h => by
    simp only [masks] at h
    split at h
    · rename_i hall
      obtain ⟨h1, h2, h3⟩ := masks_spec l _ ms h
      simp only [List.length_append, List.length_cons, List.length_nil] at h1 h2 h3
      refine ⟨by simp; omega, fun k hk => ?_, fun k o' hk => ?_⟩
      · rw [h2 k (by omega), List.getElem?_append_left hk]
      · cases k with
        | zero =>
          simp at hk; subst hk
          have hedge : ∀ e ∈ o.after, Region.binds .any e = true → e.on < acc.length + 0 := fun e he hb => by
            have := List.all_eq_true.1 hall e (by simpa using he)
            simp [hb] at this
            omega
          refine ⟨hedge, fun m hm j hj => ?_⟩
          rw [Nat.add_zero, h2 acc.length (by omega)] at hm
          simp at hm; subst hm
          rcases maskE_bit acc j _ 0 hj with h0 | ⟨e, he, hb, h4⟩
          · simp at h0
          · refine ⟨e, by simpa using he, hb, ?_⟩
            rcases h4 with h4 | h4
            · exact .inl h4
            · have hlt := hedge e (by simpa using he) hb
              simp only [Nat.add_zero] at hlt
              refine .inr ⟨acc.getD e.on 0, ?_, h4⟩
              rw [h2 e.on (by omega), List.getElem?_append_left hlt, List.getD_eq_getElem?_getD, List.getElem?_eq_getElem hlt]; rfl
        | succ k =>
          have := h3 k o' (by simpa using hk)
          rw [show acc.length + 1 + k = acc.length + (k + 1) by omega] at this
          exact this
    · cases h

/-- What is done is done with all ahead of it. -/
theorem closed_mask {ops : Array Oper} {ms : List Nat} (hm : masks ops.toList [] = some ms) {S : Nat → Bool} (hS : ∀ i o, S i = true → ops[i]? = some o → ∀ e ∈ o.after, Region.binds .any e = true → S e.on = true) :
    ∀ (n i : Nat), i < n → S i = true → ∀ m, ms[i]? = some m → ∀ j, m.testBit j = true → S j = true := by
  obtain ⟨h1, _, h3⟩ := masks_spec _ _ _ hm
  intro n
  induction n with
  | zero => intro i hi; omega
  | succ n ih =>
    intro i hi hSi m hmi j hj
    have hlt : i < ops.size := by
      rcases Nat.lt_or_ge i ms.length with h' | h'
      · simp at h1; omega
      · simp [List.getElem?_eq_none h'] at hmi
    have ho : ops[i]? = some ops[i] := Array.getElem?_eq_getElem hlt
    obtain ⟨h4, h5⟩ := h3 i ops[i] (by simp)
    obtain ⟨e, he, hb, h6⟩ := h5 m (by simpa using hmi) j hj
    have hSe := hS i _ hSi ho e he hb
    have hlt' := h4 e he hb
    simp at hlt'
    rcases h6 with h6 | ⟨m', h7, h8⟩
    · rw [← h6]; exact hSe
    · exact ih e.on (by omega) hSe m' h7 j h8

end Go.Ab
