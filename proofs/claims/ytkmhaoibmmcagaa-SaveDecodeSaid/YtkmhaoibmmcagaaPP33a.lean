/- Plain Lean: what the laws of this program's functions come to, in numbers and lists; no program is run here. -/
import Derived.Test.YtkmhaoibmmcagaaPPBy
set_option linter.unusedVariables false
set_option linter.unusedSimpArgs false
set_option maxRecDepth 100000
namespace Go.Proofs.Ytkmhaoibmmcagaa
open Go Go.Ab Go.Proofs
/- A reader's words, the program's and the document's, in plain Lean (r33). -/
theorem bifT {α : Type} {c : Bool} {a b : α} (h : c = true) : (bif c then a else b) = a := by subst h; rfl
theorem bifF {α : Type} {c : Bool} {a b : α} (h : c = false) : (bif c then a else b) = b := by subst h; rfl
theorem bindT {α β : Type} {o : Option α} {v : α} {f : α → Option β} (h : o = some v) : Option.bind o f = f v := by subst h; rfl
theorem sz5 : Try.prog.types[5].size = 1 := by kernel_rfl
theorem by5 : Try.prog.types[5].bytes = 1 := by kernel_rfl
theorem wrapNat (i : Nat) (h : i ≤ 100000) : IntKind.i64.wrap ((i : Int) + 1) = ((i + 1 : Nat) : Int) := by rw [IntKind.wrap_i64]; omega
theorem u64i (n : Int) (h0 : 0 ≤ n) (h1 : n < 18446744073709551616) : IntKind.u64.wrap n = n := by rw [wu64]; omega
theorem clone32 (l : List Int) (h : l.length ≤ 1000000) : fn32 (l, ()) = some l := by
  unfold fn32 law32
  rw [by5, show (decide (0 = ([] : List Int).length) && (decide ((0 + List.length (l, ()).fst) * 1 ≤ 140737488355328) && decide (0 + List.length (l, ()).fst ≤ 9223372036854775807))) = true from by simp; omega]
  rw [cond_true, List.nil_append, Nat.zero_add, decide_eq_true rfl]
  rfl
/-! ### a word out of bytes -/
theorem orAdd (k a c : Nat) (ha : a < 2 ^ k) (hc : c * 2 ^ k < 2 ^ 64) (hk : 2 ^ k ≤ 2 ^ 64) : (BitVec.ofInt 64 (a : Int) ||| BitVec.ofInt 64 ((c * 2 ^ k : Nat) : Int)).toNat = a + c * 2 ^ k := by
  have e : ∀ n : Nat, n < 2 ^ 64 → (BitVec.ofInt 64 (n : Int)).toNat = n := fun n hn => by
    rw [BitVec.toNat_ofInt]
    have : ((n : Int) % ((2 ^ 64 : Nat) : Int)) = ((n % 2 ^ 64 : Nat) : Int) := by simp
    rw [this, Int.toNat_natCast, Nat.mod_eq_of_lt hn]
  rw [BitVec.toNat_or, e a (by omega), e _ hc, Nat.mul_comm c, Nat.or_comm, ← Nat.two_pow_add_eq_or_of_lt ha]
  omega
theorem step53 (N0 : Nat) (x : (List Int) × Unit) (k : Int → Option (Int × Unit)) (n i a : Nat) (c : Int) (hc : x.fst[i]? = some c) (hc1 : 0 ≤ c ∧ c < 256) (hi : i < 8) (ha : a < 2 ^ (8 * i)) :
    law53o0 N0 x k (n + 1) a i = law53o0 N0 x k n ((a + c.toNat * 2 ^ (8 * i) : Nat) : Int) ((i + 1 : Nat) : Int) := by
  have hil := (List.getElem?_eq_some_iff.1 hc).1
  conv => lhs; unfold law53o0
  have w8 : IntKind.i64.wrap (8 * (i : Int)) = ((8 * i : Nat) : Int) := by rw [IntKind.wrap_i64]; omega
  refine (bifT (by rw [decide_eq_true_eq]; omega)).trans ((bifT (by simp; omega)).trans ((bindT (v := c) (by rw [Int.toNat_natCast]; exact hc)).trans ((bifT (by rw [w8, decide_eq_true_eq]; omega)).trans ?_)))
  obtain ⟨m, rfl⟩ := Int.eq_ofNat_of_zero_le hc1.1
  have hm : m < 256 := by omega
  have hp : 2 ^ (8 * i) ≤ 2 ^ 56 := Nat.pow_le_pow_right (by decide) (by omega)
  have hmul : m * 2 ^ (8 * i) ≤ 255 * 2 ^ 56 := Nat.mul_le_mul (by omega) hp
  have e1 : IntKind.u64.wrap (IntKind.u64.wrap ((m : Nat) : Int) * 2 ^ min (IntKind.i64.wrap (8 * (i : Int))).toNat 64) = ((m * 2 ^ (8 * i) : Nat) : Int) := by
    rw [u64i ((m : Nat) : Int) (by omega) (by omega), w8, Int.toNat_natCast, Nat.min_eq_left (by omega)]
    rw [show ((m : Nat) : Int) * 2 ^ (8 * i) = ((m * 2 ^ (8 * i) : Nat) : Int) by simp]
    exact u64i _ (by omega) (by omega)
  rw [e1, orAdd (8 * i) a m ha (by omega) (by omega), u64i _ (by omega) (by omega), Int.toNat_natCast]
  rw [wrapNat i (by omega)]
theorem from53 (N0 : Nat) (x : (List Int) × Unit) (k : Int → Option (Int × Unit)) (h8 : x.fst.length ≤ 8) (hx : Byt x.fst) : ∀ (m n i a : Nat), i + m = x.fst.length → a < 2 ^ (8 * i) → m < n → law53o0 N0 x k n a i = k (a + 2 ^ (8 * i) * bvI (x.fst.drop i))
  | 0, 0, i, a, h1, h2, h3 => by omega
  | 0, n + 1, i, a, h1, h2, h3 => by
    conv => lhs; unfold law53o0
    refine (bifF (by rw [decide_eq_false_iff_not]; omega)).trans ?_
    rw [List.drop_eq_nil_of_le (by omega)]; simp [bvI]
  | m + 1, 0, i, a, h1, h2, h3 => by omega
  | m + 1, n + 1, i, a, h1, h2, h3 => by
    have hi : i < x.fst.length := by omega
    have hc := hx x.fst[i] (List.getElem_mem hi)
    have hp : 2 ^ (8 * (i + 1)) = 256 * 2 ^ (8 * i) := by rw [show 8 * (i + 1) = 8 + 8 * i by omega, Nat.pow_add]
    have hlt : x.fst[i].toNat * 2 ^ (8 * i) ≤ 255 * 2 ^ (8 * i) := Nat.mul_le_mul (by omega) (Nat.le_refl _)
    rw [step53 N0 x k n i a _ (List.getElem?_eq_getElem hi) hc (by omega) h2, from53 N0 x k h8 hx m n (i + 1) _ (by omega) (by omega) (by omega)]
    rw [List.drop_eq_getElem_cons hi]
    congr 1
    have hcc : ((x.fst[i].toNat : Nat) : Int) = x.fst[i] := Int.toNat_of_nonneg hc.1
    have hp2 : (2 : Int) ^ (8 * (i + 1)) = 256 * 2 ^ (8 * i) := by exact_mod_cast hp
    simp only [bvI]
    rw [hp2]
    push_cast
    rw [hcc]
    grind
theorem fn53_v (l : List Int) (h8 : l.length ≤ 8) (hx : Byt l) : fn53 (l, ()) = some (bvI l, ()) := by
  show law53 (10 ^ 30) (l, ()) = _
  unfold law53
  refine (from53 _ (l, ()) _ h8 hx l.length (10 ^ 30) 0 0 (by simp) (by simp) (Nat.lt_of_le_of_lt h8 (by decide))).trans ?_
  simp
/-! ### the program's reader -/
theorem num51 {l : List Int} {m : RM} (hL : l.length ≤ 100000) (hb : Byt l) (h : OkM l m) : fn51 (l, m) () = some ((l, (numP l m).1), (numP l m).2, ()) := by
  obtain ⟨p, q, e, a, u⟩ := m
  obtain ⟨h1, h2, h3, h4, h5, h6⟩ := h
  simp only at h1 h2 h3 h4 h5 h6
  show law51 (l, (p, q, e, a, ())) () = some ((l, (numP l (p, q, e, a, ())).1), (numP l (p, q, e, a, ())).2, ())
  unfold law51
  by_cases he : e = 0
  · subst he
    by_cases hs : (l.length : Int) < p + 8
    · rw [numP_s hs]
      exact (bifF rfl).trans ((bifT (by (simp only [Bool.and_eq_true, decide_eq_true_eq, IntKind.wrap_i64, if_pos sz5, true_and, and_true, Int.toNat_natCast] <;> omega))).trans rfl)
    · rw [numP_o hs]
      have hw : IntKind.i64.wrap (p + 8) = p + 8 := by rw [IntKind.wrap_i64]; omega
      refine (bifF rfl).trans ((bifF (by (simp only [decide_eq_false_iff_not, IntKind.wrap_i64, if_pos sz5] <;> omega))).trans ((bifT (by (simp only [Bool.and_eq_true, decide_eq_true_eq, IntKind.wrap_i64, if_pos sz5, true_and, and_true, Int.toNat_natCast] <;> omega))).trans ((bifT (by (simp only [Bool.and_eq_true, decide_eq_true_eq, IntKind.wrap_i64, if_pos sz5, true_and, and_true, Int.toNat_natCast] <;> omega))).trans ((bifT (by (simp only [Bool.and_eq_true, decide_eq_true_eq, IntKind.wrap_i64, if_pos sz5, true_and, and_true, Int.toNat_natCast] <;> omega))).trans ((bindT (v := (bvI (cut l p.toNat 8), ())) ?_).trans ?_)))))
      · simp only [if_pos sz5, hw]
        rw [show (p + 8 - p).toNat = 8 by omega]
        exact fn53_v _ (by rw [cut_length (by omega)]; exact Nat.le_refl 8) (cut_byt hb _ _)
      · simp only [hw]
  · rw [numP_e he]
    exact bifT (by simp [he])
theorem flag48 {l : List Int} {m : RM} (hL : l.length ≤ 100000) (h : OkM l m) : fn48 (l, m) () = some ((l, (flagP l m).1), (flagP l m).2, ()) := by
  obtain ⟨p, q, e, a, u⟩ := m
  obtain ⟨h1, h2, h3, h4, h5, h6⟩ := h
  simp only at h1 h2 h3 h4 h5 h6
  show law48 (l, (p, q, e, a, ())) () = some ((l, (flagP l (p, q, e, a, ())).1), (flagP l (p, q, e, a, ())).2, ())
  unfold law48
  by_cases he : e = 0
  · subst he
    by_cases hs : (l.length : Int) < p + 1
    · rw [flagP_s hs]
      exact (bifF rfl).trans ((bifT (by (simp only [Bool.and_eq_true, decide_eq_true_eq, IntKind.wrap_i64, if_pos sz5, true_and, and_true, Int.toNat_natCast] <;> omega))).trans rfl)
    · have hw : IntKind.i64.wrap (p + 1) = p + 1 := by rw [IntKind.wrap_i64]; omega
      have hg : l[(if Try.prog.types[5].size = 1 then Int.toNat p else Int.toNat p * 1) + Int.toNat 0]? = some (l.getD p.toNat 0) := by
        rw [if_pos sz5]; exact getD_some (by omega)
      refine (bifF rfl).trans ((bifF (by (simp only [decide_eq_false_iff_not, IntKind.wrap_i64, if_pos sz5] <;> omega))).trans ((bifT (by (simp only [Bool.and_eq_true, decide_eq_true_eq, IntKind.wrap_i64, if_pos sz5, true_and, and_true, Int.toNat_natCast] <;> omega))).trans ((bifT (by (simp only [Bool.and_eq_true, decide_eq_true_eq, IntKind.wrap_i64, if_pos sz5, true_and, and_true, Int.toNat_natCast] <;> omega))).trans ((bifT (by (simp only [Bool.and_eq_true, decide_eq_true_eq, IntKind.wrap_i64, if_pos sz5, true_and, and_true, Int.toNat_natCast] <;> omega))).trans ((bindT hg).trans ?_)))))
      by_cases hv : l.getD p.toNat 0 > 1
      · rw [flagP_b hs hv]
        refine (bifT (by rw [decide_eq_true_eq]; exact hv)).trans ((bifT rfl).trans ?_)
        simp only [hw]
      · rw [flagP_o hs hv]
        refine (bifF (by rw [decide_eq_false_iff_not]; exact hv)).trans ((bifT (by (simp only [Bool.and_eq_true, decide_eq_true_eq, IntKind.wrap_i64, if_pos sz5, true_and, and_true, Int.toNat_natCast] <;> omega))).trans ((bifT (by (simp only [Bool.and_eq_true, decide_eq_true_eq, IntKind.wrap_i64, if_pos sz5, true_and, and_true, Int.toNat_natCast] <;> omega))).trans ((bindT hg).trans ?_)))
        simp only [hw]
  · rw [flagP_e he]
    exact bifT (by simp [he])
theorem ref50 {l : List Int} {m : RM} {e : Int} (he : e ≠ 0) : fn50 (l, m) (e, ()) = some ((l, refP m e), ()) := by
  obtain ⟨p, q, e', a, u⟩ := m
  show law50 (l, (p, q, e', a, ())) (e, ()) = _
  unfold law50 refP
  refine (bifF (by simp [he])).trans ?_
  by_cases h0 : e' = 0
  · subst h0
    exact (bifT rfl).trans (by rw [if_pos rfl])
  · exact (bifF (by simp [h0])).trans (by rw [if_neg h0])
theorem end18 {l : List Int} {m : RM} : ∃ m', fn18 (l, m) () = some ((l, m'), (endP l m).1, (endP l m).2, ()) := by
  obtain ⟨p, q, e, a, u⟩ := m
  show ∃ m', law18 (l, (p, q, e, a, ())) () = _
  unfold law18 endP
  by_cases hp : p < (l.length : Int)
  · by_cases h0 : e = 0
    · subst h0
      exact ⟨_, (bifT (by rw [decide_eq_true_eq]; exact hp)).trans ((bifT rfl).trans (by rw [if_pos ⟨hp, rfl⟩]))⟩
    · exact ⟨_, (bifT (by rw [decide_eq_true_eq]; exact hp)).trans ((bifF (by simp [h0])).trans (by rw [if_neg (fun hh => h0 hh.2)]))⟩
  · exact ⟨_, (bifF (by rw [decide_eq_false_iff_not]; exact hp)).trans (by rw [if_neg (fun hh => hp hh.1)])⟩
def chst : ByteArray := ByteArray.mk (Array.mk [67, 72, 83, 84])
theorem mark16 {l : List Int} {m : RM} (hL : l.length ≤ 100000) (h : OkM l m) : fn16 (l, m) (chst, ()) = some ((l, markP l m [67, 72, 83, 84]), ()) := by
  obtain ⟨p, q, e, a, u⟩ := m
  obtain ⟨h1, h2, h3, h4, h5, h6⟩ := h
  simp only at h1 h2 h3 h4 h5 h6
  show law16 (l, (p, q, e, a, ())) (chst, ()) = some ((l, markP l (p, q, e, a, ()) [67, 72, 83, 84]), ())
  unfold law16
  by_cases he : e = 0
  · subst he
    by_cases hs : (l.length : Int) < p + 4
    · rw [markP_s hs]
      exact (bifF rfl).trans ((bifT (by (simp only [Bool.and_eq_true, decide_eq_true_eq, IntKind.wrap_i64, if_pos sz5, true_and, and_true, Int.toNat_natCast] <;> omega))).trans rfl)
    · have hw : IntKind.i64.wrap (p + 4) = p + 4 := by rw [IntKind.wrap_i64]; omega
      have hc := cut4 (l := l) (n := p.toNat) (by omega)
      have g0 : l[(if Try.prog.types[5].size = 1 then Int.toNat p else Int.toNat p * 1)]? = some (l.getD p.toNat 0) := by rw [if_pos sz5]; exact getD_some (by omega)
      have g1 : l[(if Try.prog.types[5].size = 1 then Int.toNat p else Int.toNat p * 1) + 1]? = some (l.getD (p.toNat + 1) 0) := by rw [if_pos sz5]; exact getD_some (by omega)
      have g2 : l[(if Try.prog.types[5].size = 1 then Int.toNat p else Int.toNat p * 1) + 1 + 1]? = some (l.getD (p.toNat + 2) 0) := by rw [if_pos sz5]; exact getD_some (by omega)
      have g3 : l[(if Try.prog.types[5].size = 1 then Int.toNat p else Int.toNat p * 1) + 1 + 1 + 1]? = some (l.getD (p.toNat + 3) 0) := by rw [if_pos sz5]; exact getD_some (by omega)
      refine (bifF rfl).trans ((bifF (by (simp only [decide_eq_false_iff_not, IntKind.wrap_i64, if_pos sz5] <;> omega))).trans ((bifT (by (simp only [Bool.and_eq_true, decide_eq_true_eq, IntKind.wrap_i64, if_pos sz5, true_and, and_true, Int.toNat_natCast] <;> omega))).trans ((bifT (by (simp only [Bool.and_eq_true, decide_eq_true_eq, IntKind.wrap_i64, if_pos sz5, true_and, and_true, Int.toNat_natCast] <;> omega))).trans ((bifT (by (simp only [Bool.and_eq_true, decide_eq_true_eq, IntKind.wrap_i64, if_pos sz5, true_and, and_true, Int.toNat_natCast] <;> omega))).trans ((bindT g0).trans ((bindT g1).trans ((bindT g2).trans ((bindT g3).trans ?_))))))))
      generalize l.getD p.toNat 0 = v0 at hc ⊢
      generalize l.getD (p.toNat + 1) 0 = v1 at hc ⊢
      generalize l.getD (p.toNat + 2) 0 = v2 at hc ⊢
      generalize l.getD (p.toNat + 3) 0 = v3 at hc ⊢
      have z : Int.toNat 0 = 0 := rfl
      have ec : (!((v0 == bif decide (0 - (0 + Int.toNat 0 * Try.prog.types[5].size) < ByteArray.size chst) then (↑(chst.data.toList.getD (0 - (0 + Int.toNat 0 * Try.prog.types[5].size)) 0).1.toNat : Int) else 0) && ((v1 == bif decide (0 + 1 - (0 + Int.toNat 0 * Try.prog.types[5].size) < ByteArray.size chst) then (↑(chst.data.toList.getD (0 + 1 - (0 + Int.toNat 0 * Try.prog.types[5].size)) 0).1.toNat : Int) else 0) && ((v2 == bif decide (0 + 1 + 1 - (0 + Int.toNat 0 * Try.prog.types[5].size) < ByteArray.size chst) then (↑(chst.data.toList.getD (0 + 1 + 1 - (0 + Int.toNat 0 * Try.prog.types[5].size)) 0).1.toNat : Int) else 0) && ((v3 == bif decide (0 + 1 + 1 + 1 - (0 + Int.toNat 0 * Try.prog.types[5].size) < ByteArray.size chst) then (↑(chst.data.toList.getD (0 + 1 + 1 + 1 - (0 + Int.toNat 0 * Try.prog.types[5].size)) 0).1.toNat : Int) else 0) && true))))) = !decide (cut l p.toNat 4 = [67, 72, 83, 84]) := by
        rw [hc]
        simp only [sz5, z, Nat.zero_mul, Nat.add_zero, Nat.zero_add, Nat.sub_zero, Nat.reduceAdd]
        show (!((v0 == (67 : Int)) && ((v1 == (72 : Int)) && ((v2 == (83 : Int)) && ((v3 == (84 : Int)) && true))))) = _
        rw [Bool.eq_iff_iff]
        simp [List.cons.injEq]
      by_cases hm : cut l p.toNat 4 = [67, 72, 83, 84]
      · rw [markP_o hs hm]
        refine (bifF (by rw [ec, decide_eq_true hm]; rfl)).trans ?_
        simp only [hw]
      · rw [markP_b hs hm]
        refine (bifT (by rw [ec, decide_eq_false hm]; rfl)).trans ((bifT rfl).trans ?_)
        simp only [hw]
  · rw [markP_e he]
    exact bifT (by simp [he])
end Go.Proofs.Ytkmhaoibmmcagaa
