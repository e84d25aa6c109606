/- Plain Lean: what the laws of this program's functions come to, in numbers and lists; no program is run here. -/
import Derived.Test.YtkmhaoibmmcagaaLawsb
set_option linter.unusedVariables false
set_option linter.unusedSimpArgs false
set_option maxRecDepth 100000
namespace Go.Ab
open Go Go.Ab
/- Words as bytes, and back, in plain Lean (program-free): a reader's steps, and that what was put comes back and nothing else is read. -/
def bvI : List Int → Int
  | [] => 0
  | c :: l => c + 256 * bvI l
def wd8 (w : Int) : List Int := [IntKind.u8.wrap w, IntKind.u8.wrap (w.fdiv 256), IntKind.u8.wrap ((w.fdiv 256).fdiv 256), IntKind.u8.wrap (((w.fdiv 256).fdiv 256).fdiv 256), IntKind.u8.wrap ((((w.fdiv 256).fdiv 256).fdiv 256).fdiv 256), IntKind.u8.wrap (((((w.fdiv 256).fdiv 256).fdiv 256).fdiv 256).fdiv 256), IntKind.u8.wrap ((((((w.fdiv 256).fdiv 256).fdiv 256).fdiv 256).fdiv 256).fdiv 256), IntKind.u8.wrap (((((((w.fdiv 256).fdiv 256).fdiv 256).fdiv 256).fdiv 256).fdiv 256).fdiv 256)]
theorem wu8 (n : Int) : IntKind.u8.wrap n = n % 256 := by simp [IntKind.wrap, IntKind.signed, IntKind.bits]
theorem wu32 (n : Int) : IntKind.u32.wrap n = n % 4294967296 := by simp [IntKind.wrap, IntKind.signed, IntKind.bits]
theorem wu64 (n : Int) : IntKind.u64.wrap n = n % 18446744073709551616 := by simp [IntKind.wrap, IntKind.signed, IntKind.bits]
theorem fdv (n : Int) : n.fdiv 256 = n / 256 := Int.fdiv_eq_ediv_of_nonneg n (by decide)
theorem wd8_len (w : Int) : (wd8 w).length = 8 := rfl
theorem bvI_wd8 (w : Int) (h : 0 ≤ w ∧ w < 18446744073709551616) : bvI (wd8 w) = w := by
  simp only [wd8, bvI, wu8, fdv]; omega
theorem len8 {l : List Int} (h : l.length = 8) : ∃ a b c d e f g i, l = [a, b, c, d, e, f, g, i] := by
  match l, h with
  | [a, b, c, d, e, f, g, i], _ => exact ⟨a, b, c, d, e, f, g, i, rfl⟩
theorem len1 {l : List Int} (h : l.length = 1) : ∃ a, l = [a] := by
  match l, h with
  | [a], _ => exact ⟨a, rfl⟩
def Byt (l : List Int) : Prop := ∀ c ∈ l, 0 ≤ c ∧ c < 256
theorem wd8_bvI {l : List Int} (h : l.length = 8) (hb : Byt l) : wd8 (bvI l) = l ∧ 0 ≤ bvI l ∧ bvI l < 18446744073709551616 := by
  obtain ⟨a, b, c, d, e, f, g, i, rfl⟩ := len8 h
  have ha := hb a (by simp)
  have h1 := hb b (by simp)
  have h2 := hb c (by simp)
  have h3 := hb d (by simp)
  have h4 := hb e (by simp)
  have h5 := hb f (by simp)
  have h6 := hb g (by simp)
  have h7 := hb i (by simp)
  simp only [wd8, bvI, wu8, fdv, List.cons.injEq, and_true]
  omega
theorem wd8_byt (w : Int) : Byt (wd8 w) := by
  intro c hc
  simp only [wd8, List.mem_cons, List.not_mem_nil, or_false, wu8] at hc
  omega

/-! ### the reader's steps -/
/-- Where the next word is, where the last one began, the first error and its place. -/
abbrev RM := Int × Int × Int × Int × Unit
def numP (l : List Int) (m : RM) : RM × Int :=
  if m.2.2.1 ≠ 0 then (m, 0)
  else if (l.length : Int) < m.1 + 8 then ((m.1, m.2.1, 20, (l.length : Int), ()), 0)
  else ((m.1 + 8, m.1, 0, m.2.2.2.1, ()), IntKind.i64.wrap (bvI (cut l m.1.toNat 8)))
def flagP (l : List Int) (m : RM) : RM × Bool :=
  if m.2.2.1 ≠ 0 then (m, false)
  else if (l.length : Int) < m.1 + 1 then ((m.1, m.2.1, 20, (l.length : Int), ()), false)
  else if l.getD m.1.toNat 0 > 1 then ((m.1 + 1, m.1, 24, m.1, ()), false)
  else ((m.1 + 1, m.1, 0, m.2.2.2.1, ()), l.getD m.1.toNat 0 == 1)
def markP (l : List Int) (m : RM) (t : List Int) : RM :=
  if m.2.2.1 ≠ 0 then m
  else if (l.length : Int) < m.1 + 4 then (m.1, m.2.1, 20, (l.length : Int), ())
  else if cut l m.1.toNat 4 = t then (m.1 + 4, m.1, 0, m.2.2.2.1, ())
  else (m.1 + 4, m.1, 21, m.1, ())
def refP (m : RM) (e : Int) : RM := if m.2.2.1 = 0 then (m.1, m.2.1, e, m.2.1, ()) else m
def endP (l : List Int) (m : RM) : Int × Int := if m.1 < (l.length : Int) ∧ m.2.2.1 = 0 then (23, m.1) else (m.2.2.1, m.2.2.2.1)
inductive Kd where
  | n
  | f
  | t
def stepP (l : List Int) (k : Kd) (m : RM) : RM × Int := match k with
  | .n => numP l m
  | .f => ((flagP l m).1, bif (flagP l m).2 then 1 else 0)
  | .t => (bif decide (IntKind.u32.wrap (numP l m).2 = (numP l m).2) then (numP l m).1 else refP (numP l m).1 40, (numP l m).2)
def decL (l : List Int) : List Kd → RM → RM × List Int
  | [], m => (m, [])
  | k :: K, m => ((decL l K (stepP l k m).1).1, (stepP l k m).2 :: (decL l K (stepP l k m).1).2)
def encW : Kd → Int → List Int
  | .n, w => wd8 (IntKind.u64.wrap w)
  | .t, w => wd8 (IntKind.u64.wrap w)
  | .f, w => [bif w == 1 then 1 else 0]
def okW : Kd → Int → Prop
  | .n, w => -9223372036854775808 ≤ w ∧ w ≤ 9223372036854775807
  | .t, w => 0 ≤ w ∧ w < 4294967296
  | .f, w => w = 0 ∨ w = 1
def encL : List Kd → List Int → List Int
  | k :: K, w :: W => encW k w ++ encL K W
  | _, _ => []
def okL' : List Kd → List Int → Prop
  | k :: K, w :: W => okW k w ∧ okL' K W
  | [], [] => True
  | _, _ => False
structure OkM (l : List Int) (m : RM) : Prop where
  p0 : 0 ≤ m.1
  p1 : m.1 ≤ l.length
  q0 : 0 ≤ m.2.1
  q1 : m.2.1 ≤ l.length
  a0 : 0 ≤ m.2.2.2.1
  a1 : m.2.2.2.1 ≤ l.length
theorem okm_num {l : List Int} {m : RM} (h : OkM l m) : OkM l (numP l m).1 := by
  obtain ⟨h1, h2, h3, h4, h5, h6⟩ := h
  unfold numP
  split
  · exact ⟨h1, h2, h3, h4, h5, h6⟩
  · split
    · exact ⟨h1, h2, h3, h4, by simp, by simp⟩
    · constructor <;> simp only <;> omega
theorem okm_flag {l : List Int} {m : RM} (h : OkM l m) : OkM l (flagP l m).1 := by
  obtain ⟨h1, h2, h3, h4, h5, h6⟩ := h
  unfold flagP
  split
  · exact ⟨h1, h2, h3, h4, h5, h6⟩
  · split
    · exact ⟨h1, h2, h3, h4, by simp, by simp⟩
    · split
      · constructor <;> simp only <;> omega
      · constructor <;> simp only <;> omega
theorem okm_mark {l t : List Int} {m : RM} (h : OkM l m) : OkM l (markP l m t) := by
  obtain ⟨h1, h2, h3, h4, h5, h6⟩ := h
  unfold markP
  split
  · exact ⟨h1, h2, h3, h4, h5, h6⟩
  · split
    · exact ⟨h1, h2, h3, h4, by simp, by simp⟩
    · split
      · constructor <;> simp only <;> omega
      · constructor <;> simp only <;> omega
theorem okm_ref {l : List Int} {m : RM} {e : Int} (h : OkM l m) : OkM l (refP m e) := by
  obtain ⟨h1, h2, h3, h4, h5, h6⟩ := h
  unfold refP
  split
  · exact ⟨h1, h2, h3, h4, h3, h4⟩
  · exact ⟨h1, h2, h3, h4, h5, h6⟩
theorem okm_step {l : List Int} {m : RM} {k : Kd} (h : OkM l m) : OkM l (stepP l k m).1 := by
  cases k with
  | n => exact okm_num h
  | f => exact okm_flag h
  | t =>
    show OkM l (bif decide _ then _ else _)
    cases decide (IntKind.u32.wrap (numP l m).2 = (numP l m).2)
    · exact okm_ref (okm_num h)
    · exact okm_num h
theorem okm_dec {l : List Int} : ∀ (K : List Kd) {m : RM}, OkM l m → OkM l (decL l K m).1
  | [], m, h => h
  | k :: K, m, h => okm_dec K (okm_step h)
theorem end_ok {l : List Int} {m : RM} (h : OkM l m) : 0 ≤ (endP l m).2 ∧ (endP l m).2 ≤ l.length := by
  unfold endP
  split
  · exact ⟨h.p0, h.p1⟩
  · exact ⟨h.a0, h.a1⟩

theorem cut_mid (pre B post : List Int) (n m : Nat) (hn : n = pre.length) (hm : m = B.length) : cut (pre ++ B ++ post) n m = B := by
  subst hm; subst hn
  simp [cut]
theorem get_mid (pre B post : List Int) (b : Int) (n : Nat) (hn : n = pre.length) (hb : B = [b]) : (pre ++ B ++ post).getD n 0 = b := by
  subst hn; subst hb
  simp
theorem wi64 (n : Int) (h : -9223372036854775808 ≤ n ∧ n ≤ 9223372036854775807) : IntKind.i64.wrap (n % 18446744073709551616) = n := by
  rw [IntKind.wrap_i64]; omega
/-- One word comes back. -/
theorem num_back {l pre post : List Int} {w last pl : Int} (hw : -9223372036854775808 ≤ w ∧ w ≤ 9223372036854775807) (hl : l = pre ++ wd8 (IntKind.u64.wrap w) ++ post) : numP l ((pre.length : Int), last, 0, pl, ()) = (((pre.length : Int) + 8, (pre.length : Int), 0, pl, ()), w) := by
  have h8 : l.length = pre.length + 8 + post.length := by rw [hl]; simp [wd8_len]; omega
  unfold numP
  rw [if_neg (by simp), if_neg (by simp only; omega)]
  simp only [Int.toNat_natCast]
  rw [hl, cut_mid _ _ _ _ _ rfl (wd8_len _).symm, bvI_wd8 _ (by rw [wu64]; omega), wu64, wi64 _ hw]
theorem step_back {l pre post : List Int} {k : Kd} {w last pl : Int} (hw : okW k w) (hl : l = pre ++ encW k w ++ post) : stepP l k ((pre.length : Int), last, 0, pl, ()) = (((pre.length : Int) + (encW k w).length, (pre.length : Int), 0, pl, ()), w) := by
  cases k with
  | n => exact num_back hw hl
  | t =>
    have hw : 0 ≤ w ∧ w < 4294967296 := hw
    show (bif decide _ then _ else _, _) = _
    rw [num_back (by omega) hl]
    rw [show decide (IntKind.u32.wrap w = w) = true from by rw [decide_eq_true_eq, wu32]; omega]
    rfl
  | f =>
    have hw : w = 0 ∨ w = 1 := hw
    have h8 : l.length = pre.length + 1 + post.length := by rw [hl]; simp [encW]; omega
    have hg : l.getD pre.length 0 = (bif w == 1 then 1 else 0) := by rw [hl]; exact get_mid _ _ _ _ _ rfl rfl
    show ((flagP l _).1, bif (flagP l _).2 then _ else _) = _
    have e : flagP l ((pre.length : Int), last, 0, pl, ()) = (((pre.length : Int) + 1, (pre.length : Int), 0, pl, ()), w == 1) := by
      unfold flagP
      rw [if_neg (by simp), if_neg (by simp only; omega)]
      simp only [Int.toNat_natCast]
      rw [hg]
      rcases hw with rfl | rfl
      · rfl
      · rfl
    rw [e]
    rcases hw with rfl | rfl
    · rfl
    · rfl
theorem dec_back {l : List Int} : ∀ (K : List Kd) (W pre post : List Int) (last pl : Int), okL' K W → l = pre ++ encL K W ++ post → ∃ last', decL l K ((pre.length : Int), last, 0, pl, ()) = (((pre.length : Int) + (encL K W).length, last', 0, pl, ()), W)
  | [], [], pre, post, last, pl, _, hl => ⟨last, by simp [decL, encL]⟩
  | [], _ :: _, _, _, _, _, h, _ => h.elim
  | _ :: _, [], _, _, _, _, h, _ => h.elim
  | k :: K, w :: W, pre, post, last, pl, h, hl => by
    have hl : l = pre ++ (encW k w ++ encL K W) ++ post := hl
    obtain ⟨last', h2⟩ := dec_back (l := l) K W (pre ++ encW k w) post (pre.length : Int) pl h.2 (by rw [hl]; simp)
    refine ⟨last', ?_⟩
    have h1 := step_back (l := l) (pre := pre) (post := encL K W ++ post) (last := last) (pl := pl) h.1 (by rw [hl]; simp)
    have e : ((pre.length : Int) + (encW k w).length) = ((pre ++ encW k w).length : Int) := by simp
    simp only [decL]
    rw [h1, e, h2]
    simp [encL, Int.add_assoc]
/-! ### and nothing else is read -/
theorem num_err {l : List Int} {m : RM} (h : m.2.2.1 ≠ 0) : numP l m = (m, 0) := by unfold numP; rw [if_pos h]
theorem step_err {l : List Int} {k : Kd} {m : RM} (h : m.2.2.1 ≠ 0) : (stepP l k m).1 = m := by
  cases k with
  | n => show (numP l m).1 = m; rw [num_err h]
  | f => show (flagP l m).1 = m; unfold flagP; rw [if_pos h]
  | t =>
    show (bif decide _ then _ else _) = m
    rw [num_err h]
    simp only
    cases decide (IntKind.u32.wrap 0 = 0)
    · show refP m 40 = m; unfold refP; rw [if_neg h]
    · rfl
theorem dec_err {l : List Int} : ∀ (K : List Kd) {m : RM}, m.2.2.1 ≠ 0 → (decL l K m).1 = m
  | [], m, h => rfl
  | k :: K, m, h => by
    show (decL l K (stepP l k m).1).1 = m
    rw [step_err h, dec_err K h]
theorem cut_byt {l : List Int} (hb : Byt l) (n m : Nat) : Byt (cut l n m) := fun c hc => hb c (List.mem_of_mem_drop (List.mem_of_mem_take hc))
theorem num_only {l : List Int} (hb : Byt l) {m : RM} (h : OkM l m) (h0 : m.2.2.1 = 0) (he : (numP l m).1.2.2.1 = 0) : m.1 + 8 ≤ l.length ∧ (numP l m).1 = (m.1 + 8, m.1, 0, m.2.2.2.1, ()) ∧ cut l m.1.toNat 8 = wd8 (IntKind.u64.wrap (numP l m).2) ∧ -9223372036854775808 ≤ (numP l m).2 ∧ (numP l m).2 ≤ 9223372036854775807 := by
  unfold numP at he ⊢
  rw [if_neg (by simp [h0])] at he ⊢
  split at he
  · simp at he
  · rename_i hlt
    have hp := h.p0
    have h8 : (cut l m.1.toNat 8).length = 8 := cut_length (by omega)
    obtain ⟨e1, e2, e3⟩ := wd8_bvI h8 (cut_byt hb _ _)
    rw [if_neg hlt]
    refine ⟨by omega, rfl, ?_, ?_, ?_⟩
    · show _ = wd8 (IntKind.u64.wrap (IntKind.i64.wrap _))
      rw [wu64, IntKind.wrap_i64]
      conv => lhs; rw [← e1]
      congr 1; omega
    · simp only; rw [IntKind.wrap_i64]; omega
    · simp only; rw [IntKind.wrap_i64]; omega
theorem cut1 {l : List Int} {n : Nat} (h : n < l.length) : cut l n 1 = [l.getD n 0] := by
  unfold cut
  rw [List.drop_eq_getElem_cons h, List.take_succ_cons, List.take_zero, List.getD_eq_getElem?_getD, List.getElem?_eq_getElem h]
  rfl
theorem step_only {l : List Int} (hb : Byt l) {k : Kd} {m : RM} (h : OkM l m) (h0 : m.2.2.1 = 0) (he : (stepP l k m).1.2.2.1 = 0) :
    okW k (stepP l k m).2 ∧ (stepP l k m).1 = (m.1 + (encW k (stepP l k m).2).length, m.1, 0, m.2.2.2.1, ()) ∧ cut l m.1.toNat (encW k (stepP l k m).2).length = encW k (stepP l k m).2 := by
  cases k with
  | n =>
    obtain ⟨h1, h2, h3, h4⟩ := num_only hb h h0 he
    exact ⟨h4, h2, h3⟩
  | t =>
    have he' : (bif decide (IntKind.u32.wrap (numP l m).2 = (numP l m).2) then (numP l m).1 else refP (numP l m).1 40).2.2.1 = 0 := he
    have key : IntKind.u32.wrap (numP l m).2 = (numP l m).2 ∧ (numP l m).1.2.2.1 = 0 := by
      cases hd : decide (IntKind.u32.wrap (numP l m).2 = (numP l m).2)
      · rw [hd] at he'
        simp only [cond_false] at he'
        unfold refP at he'
        split at he'
        · simp at he'
        · contradiction
      · rw [hd] at he'
        exact ⟨by simpa using hd, he'⟩
    obtain ⟨h1, h2, h3, h4⟩ := num_only hb h h0 key.2
    refine ⟨?_, ?_, h3⟩
    · show 0 ≤ (numP l m).2 ∧ (numP l m).2 < 4294967296
      have := key.1
      rw [wu32] at this; omega
    · show (bif decide _ then _ else _) = _
      rw [decide_eq_true key.1]
      exact h2
  | f =>
    have he : (flagP l m).1.2.2.1 = 0 := he
    show okW .f (bif (flagP l m).2 then 1 else 0) ∧ (flagP l m).1 = (m.1 + 1, m.1, 0, m.2.2.2.1, ()) ∧ cut l m.1.toNat 1 = [bif (bif (flagP l m).2 then (1 : Int) else 0) == 1 then 1 else 0]
    unfold flagP at he ⊢
    rw [if_neg (by simp [h0])] at he ⊢
    split at he
    · simp at he
    · rename_i hlt
      rw [if_neg hlt]
      split at he
      · simp at he
      · rename_i hg
        rw [if_neg hg]
        have hp := h.p0
        have hn : m.1.toNat < l.length := by omega
        have hc := hb (l.getD m.1.toNat 0) (by rw [List.getD_eq_getElem?_getD, List.getElem?_eq_getElem hn]; exact List.getElem_mem hn)
        rw [cut1 hn]
        have : l.getD m.1.toNat 0 = 0 ∨ l.getD m.1.toNat 0 = 1 := by omega
        rcases this with e | e
        · rw [e]; exact ⟨.inl rfl, rfl, rfl⟩
        · rw [e]; exact ⟨.inr rfl, rfl, rfl⟩
theorem cut_join (l : List Int) (n a b : Nat) : cut l n (a + b) = cut l n a ++ cut l (n + a) b := by
  unfold cut
  rw [List.take_add, List.drop_drop]
theorem dec_only {l : List Int} (hb : Byt l) : ∀ (K : List Kd) {m : RM}, OkM l m → (decL l K m).1.2.2.1 = 0 →
    m.2.2.1 = 0 ∧ okL' K (decL l K m).2 ∧ (decL l K m).1.1 = m.1 + (encL K (decL l K m).2).length ∧ (decL l K m).1.2.2.2.1 = m.2.2.2.1 ∧ cut l m.1.toNat (encL K (decL l K m).2).length = encL K (decL l K m).2
  | [], m, h, he => ⟨he, trivial, by simp [decL, encL], rfl, by simp [decL, encL, cut]⟩
  | k :: K, m, h, he => by
    have he : (decL l K (stepP l k m).1).1.2.2.1 = 0 := he
    by_cases h0 : m.2.2.1 = 0
    · obtain ⟨h1, h2, h3, h4, h5⟩ := dec_only hb K (okm_step (k := k) h) he
      obtain ⟨k1, k2, k3⟩ := step_only hb h h0 h1
      refine ⟨h0, ⟨k1, h2⟩, ?_, ?_, ?_⟩
      · show (decL l K (stepP l k m).1).1.1 = m.1 + (encW k (stepP l k m).2 ++ encL K _).length
        rw [h3, List.length_append]
        rw [show (stepP l k m).1.1 = m.1 + (encW k (stepP l k m).2).length from by rw [k2]]
        push_cast; omega
      · show (decL l K (stepP l k m).1).1.2.2.2.1 = _
        rw [h4, k2]
      · show cut l m.1.toNat (encW k (stepP l k m).2 ++ encL K _).length = encW k (stepP l k m).2 ++ encL K _
        rw [List.length_append, cut_join, k3]
        congr 1
        have e : (stepP l k m).1.1.toNat = m.1.toNat + (encW k (stepP l k m).2).length := by
          rw [show (stepP l k m).1.1 = m.1 + (encW k (stepP l k m).2).length from by rw [k2]]
          have := h.p0; omega
        rw [← e]; exact h5
    · exfalso
      rw [step_err h0, dec_err K h0] at he
      exact h0 he
theorem numP_e {l : List Int} {p q e a : Int} (h : e ≠ 0) : numP l (p, q, e, a, ()) = ((p, q, e, a, ()), 0) := by unfold numP; rw [if_pos h]
theorem numP_s {l : List Int} {p q a : Int} (h : (l.length : Int) < p + 8) : numP l (p, q, 0, a, ()) = ((p, q, 20, (l.length : Int), ()), 0) := by unfold numP; rw [if_neg (by simp), if_pos h]
theorem numP_o {l : List Int} {p q a : Int} (h : ¬ (l.length : Int) < p + 8) : numP l (p, q, 0, a, ()) = ((p + 8, p, 0, a, ()), IntKind.i64.wrap (bvI (cut l p.toNat 8))) := by unfold numP; rw [if_neg (by simp), if_neg h]
theorem flagP_e {l : List Int} {p q e a : Int} (h : e ≠ 0) : flagP l (p, q, e, a, ()) = ((p, q, e, a, ()), false) := by unfold flagP; rw [if_pos h]
theorem flagP_s {l : List Int} {p q a : Int} (h : (l.length : Int) < p + 1) : flagP l (p, q, 0, a, ()) = ((p, q, 20, (l.length : Int), ()), false) := by unfold flagP; rw [if_neg (by simp), if_pos h]
theorem flagP_b {l : List Int} {p q a : Int} (h : ¬ (l.length : Int) < p + 1) (hg : l.getD p.toNat 0 > 1) : flagP l (p, q, 0, a, ()) = ((p + 1, p, 24, p, ()), false) := by unfold flagP; rw [if_neg (by simp), if_neg h, if_pos hg]
theorem flagP_o {l : List Int} {p q a : Int} (h : ¬ (l.length : Int) < p + 1) (hg : ¬ l.getD p.toNat 0 > 1) : flagP l (p, q, 0, a, ()) = ((p + 1, p, 0, a, ()), l.getD p.toNat 0 == 1) := by unfold flagP; rw [if_neg (by simp), if_neg h, if_neg hg]
theorem markP_e {l t : List Int} {p q e a : Int} (h : e ≠ 0) : markP l (p, q, e, a, ()) t = (p, q, e, a, ()) := by unfold markP; rw [if_pos h]
theorem markP_s {l t : List Int} {p q a : Int} (h : (l.length : Int) < p + 4) : markP l (p, q, 0, a, ()) t = (p, q, 20, (l.length : Int), ()) := by unfold markP; rw [if_neg (by simp), if_pos h]
theorem markP_o {l t : List Int} {p q a : Int} (h : ¬ (l.length : Int) < p + 4) (hc : cut l p.toNat 4 = t) : markP l (p, q, 0, a, ()) t = (p + 4, p, 0, a, ()) := by unfold markP; rw [if_neg (by simp), if_neg h, if_pos hc]
theorem markP_b {l t : List Int} {p q a : Int} (h : ¬ (l.length : Int) < p + 4) (hc : ¬ cut l p.toNat 4 = t) : markP l (p, q, 0, a, ()) t = (p + 4, p, 21, p, ()) := by unfold markP; rw [if_neg (by simp), if_neg h, if_neg hc]
theorem cut4 {l : List Int} {n : Nat} (h : n + 4 ≤ l.length) : cut l n 4 = [l.getD n 0, l.getD (n + 1) 0, l.getD (n + 2) 0, l.getD (n + 3) 0] := by
  rw [show (4 : Nat) = 1 + (1 + (1 + 1)) from rfl, cut_join, cut_join, cut_join, cut1 (by omega), cut1 (by omega), cut1 (by omega), cut1 (by omega)]
  rfl
theorem cut8 {l : List Int} {n : Nat} (h : n + 8 ≤ l.length) : cut l n 8 = [l.getD n 0, l.getD (n + 1) 0, l.getD (n + 2) 0, l.getD (n + 3) 0, l.getD (n + 4) 0, l.getD (n + 5) 0, l.getD (n + 6) 0, l.getD (n + 7) 0] := by
  rw [show (8 : Nat) = 1 + (1 + (1 + (1 + 4))) from rfl, cut_join, cut_join, cut_join, cut_join, cut1 (by omega), cut1 (by omega), cut1 (by omega), cut1 (by omega), cut4 (by omega)]
  rfl
theorem getD_some {l : List Int} {n : Nat} (h : n < l.length) : l[n]? = some (l.getD n 0) := by
  rw [List.getD_eq_getElem?_getD, List.getElem?_eq_getElem h]; rfl
/-! ### a mark ahead -/
/-- What a whole text comes to: the error, its place, the words. -/
def readT (t : List Int) (K : List Kd) (l : List Int) : Int × Int × List Int :=
  ((endP l (decL l K (markP l (0, 0, 0, 0, ()) t)).1).1, (endP l (decL l K (markP l (0, 0, 0, 0, ()) t)).1).2, (decL l K (markP l (0, 0, 0, 0, ()) t)).2)
theorem okm0 (l : List Int) : OkM l (0, 0, 0, 0, ()) := ⟨by simp, by simp, by simp, by simp, by simp, by simp⟩
theorem readT_at (t : List Int) (K : List Kd) (l : List Int) : 0 ≤ (readT t K l).2.1 ∧ (readT t K l).2.1 ≤ l.length := end_ok (okm_dec K (okm_mark (okm0 l)))
theorem readT_back {t : List Int} (ht : t.length = 4) {K : List Kd} {W : List Int} (h : okL' K W) : readT t K (t ++ encL K W) = (0, 0, W) := by
  have hm : markP (t ++ encL K W) (0, 0, 0, 0, ()) t = (((t.length : Nat) : Int), 0, 0, 0, ()) := by
    unfold markP
    rw [if_neg (by simp), if_neg (by simp [ht]; omega), if_pos (by simp [cut, ht])]
    simp [ht]
  obtain ⟨last', hd⟩ := dec_back (l := t ++ encL K W) K W t [] 0 0 h (by simp)
  unfold readT
  rw [hm, hd]
  unfold endP
  rw [if_neg (by simp)]
theorem readT_only {t : List Int} (ht : t.length = 4) {K : List Kd} {l : List Int} (hb : Byt l) (he : (readT t K l).1 = 0) : okL' K (readT t K l).2.2 ∧ l = t ++ encL K (readT t K l).2.2 ∧ (readT t K l).2.1 = 0 := by
  have he : (endP l (decL l K (markP l (0, 0, 0, 0, ()) t)).1).1 = 0 := he
  have hok := okm_mark (t := t) (okm0 l)
  generalize hm : markP l (0, 0, 0, 0, ()) t = m at he hok
  have h2 : (decL l K m).1.2.2.1 = 0 ∧ (l.length : Int) ≤ (decL l K m).1.1 := by
    unfold endP at he
    split at he
    · simp at he
    · rename_i hn
      have he : (decL l K m).1.2.2.1 = 0 := he
      exact ⟨he, by
        rcases Int.lt_or_le (decL l K m).1.1 l.length with h | h
        · exact absurd ⟨h, he⟩ hn
        · exact h⟩
  obtain ⟨h0, hW, hp, ha, hc⟩ := dec_only hb K hok h2.1
  have hmm : m = (4, 0, 0, 0, ()) ∧ cut l 0 4 = t ∧ 4 ≤ l.length := by
    unfold markP at hm
    rw [if_neg (by simp)] at hm
    split at hm
    · rw [← hm] at h0; simp at h0
    · rename_i hlt
      split at hm
      · rename_i hct
        exact ⟨hm.symm, hct, by simp only at hlt; omega⟩
      · rw [← hm] at h0; simp at h0
  obtain ⟨e1, e2, e3⟩ := hmm
  have hlen := okm_dec K hok
  have hL : l.length = 4 + (encL K (decL l K m).2).length := by
    have h9 := hlen.p1
    rw [hp, e1] at h9
    have h8 := h2.2
    rw [hp, e1] at h8
    simp only at h8 h9
    rw [e1]
    omega
  have e0 : (readT t K l).2.2 = (decL l K m).2 := by show (decL l K (markP l (0, 0, 0, 0, ()) t)).2 = _; rw [hm]
  rw [e0]
  refine ⟨hW, ?_, ?_⟩
  · have hall : cut l 0 l.length = l := cut_all l
    rw [hL, cut_join, e2] at hall
    rw [e1] at hc
    have hc : cut l 4 (encL K (decL l K (4, 0, 0, 0, ())).2).length = encL K (decL l K (4, 0, 0, 0, ())).2 := hc
    rw [e1] at hall ⊢
    rw [Nat.zero_add, hc] at hall
    exact hall.symm
  · show (endP l (decL l K (markP l (0, 0, 0, 0, ()) t)).1).2 = 0
    rw [hm]
    unfold endP
    rw [if_neg (fun hh => by have := h2.2; omega)]
    show (decL l K m).1.2.2.2.1 = 0
    rw [ha, e1]
/-! ### strings of bytes -/
theorem ba_len (s : ByteArray) : s.data.toList.length = s.size := by rw [Array.length_toList]; rfl
theorem ba_loop (s : ByteArray) : ∀ (n i : Nat) (r : List UInt8), s.size - i = n → ByteArray.toList.loop s i r = r.reverse ++ s.data.toList.drop i
  | 0, i, r, h => by
    unfold ByteArray.toList.loop
    rw [if_neg (by omega), List.drop_eq_nil_of_le (by rw [ba_len]; omega), List.append_nil]
  | n + 1, i, r, h => by
    unfold ByteArray.toList.loop
    have hi : i < s.size := by omega
    rw [if_pos hi, ba_loop s n (i + 1) _ (by omega)]
    have hi' : i < s.data.toList.length := by rw [ba_len]; exact hi
    rw [List.drop_eq_getElem_cons hi']
    simp only [List.reverse_cons, List.append_assoc, List.singleton_append]
    have e : s.get! i = s.data.toList[i] := by
      have hs : i < s.data.size := by simpa using hi'
      cases s with
      | mk d =>
        show d[i]! = _
        simp at hs
        simp [getElem!_pos, hs]
    rw [e]
theorem ba_toList (s : ByteArray) : s.toList = s.data.toList := by
  unfold ByteArray.toList
  rw [ba_loop s _ 0 [] rfl]
  simp
theorem strB_data (l : List Int) : (strB l).data.toList = l.map fun n => UInt8.ofNat n.toNat := by
  have key : ∀ (l : List Int) (r : ByteArray), (l.foldl (fun r n => r.push (UInt8.ofNat n.toNat)) r).data.toList = r.data.toList ++ l.map fun n => UInt8.ofNat n.toNat := by
    intro l
    induction l with
    | nil => intro r; simp
    | cons b l ih => intro r; rw [List.foldl_cons, ih]; simp [ByteArray.push]
  unfold strB
  rw [key]
  rfl
theorem byt_inj : ∀ {a b : List Int}, Byt a → Byt b → (a.map fun n => UInt8.ofNat n.toNat) = (b.map fun n => UInt8.ofNat n.toNat) → a = b
  | [], [], _, _, _ => rfl
  | [], _ :: _, _, _, h => by simp at h
  | _ :: _, [], _, _, h => by simp at h
  | x :: a, y :: b, ha, hb, h => by
    simp only [List.map_cons, List.cons.injEq] at h
    have hx := ha x (by simp)
    have hy := hb y (by simp)
    have e := byt_inj (fun c hc => ha c (by simp [hc])) (fun c hc => hb c (by simp [hc])) h.2
    have h1 := congrArg UInt8.toNat h.1
    simp only [UInt8.toNat_ofNat'] at h1
    rw [Nat.mod_eq_of_lt (by omega), Nat.mod_eq_of_lt (by omega)] at h1
    rw [e]
    congr 1
    omega
/-- Strings of bytes are alike if the bytes are. -/
theorem str_eq {a b : List Int} (ha : Byt a) (hb : Byt b) : ((strB a).toList == (strB b).toList) = decide (a = b) := by
  rw [Bool.eq_iff_iff, beq_iff_eq, decide_eq_true_eq, ba_toList, ba_toList, strB_data, strB_data]
  exact ⟨byt_inj ha hb, fun h => by rw [h]⟩
theorem encW_byt (k : Kd) (w : Int) : Byt (encW k w) := by
  cases k with
  | n => exact wd8_byt _
  | t => exact wd8_byt _
  | f =>
    intro c hc
    simp only [encW, List.mem_cons, List.not_mem_nil, or_false] at hc
    subst hc
    cases w == 1 <;> simp
theorem encW_len (k : Kd) (w : Int) : (encW k w).length ≤ 8 := by
  cases k <;> simp [encW, wd8_len]
theorem encL_byt : ∀ (K : List Kd) (W : List Int), Byt (encL K W)
  | [], _ => by intro c hc; simp [encL] at hc
  | _ :: _, [] => by intro c hc; simp [encL] at hc
  | k :: K, w :: W => by
    intro c hc
    simp only [encL, List.mem_append] at hc
    rcases hc with hc | hc
    · exact encW_byt k w c hc
    · exact encL_byt K W c hc
theorem encL_len : ∀ (K : List Kd) (W : List Int), (encL K W).length ≤ 8 * K.length
  | [], _ => by simp [encL]
  | _ :: _, [] => by simp [encL]
  | k :: K, w :: W => by
    have h1 := encW_len k w
    have h2 := encL_len K W
    simp only [encL, List.length_append, List.length_cons]; omega
end Go.Ab
