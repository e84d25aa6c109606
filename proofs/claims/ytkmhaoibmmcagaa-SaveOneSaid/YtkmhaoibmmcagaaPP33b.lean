/- Plain Lean: what the laws of this program's functions come to, in numbers and lists; no program is run here. -/
import Derived.Test.YtkmhaoibmmcagaaPP33a
set_option linter.unusedVariables false
set_option linter.unusedSimpArgs false
set_option maxRecDepth 100000
namespace Go.Proofs.Ytkmhaoibmmcagaa
open Go Go.Ab Go.Proofs
/- A reader's words, the document's, in plain Lean (r33). -/
theorem num24 {l : List Int} {m : RM} (hL : l.length ≤ 100000) (hb : Byt l) (h : OkM l m) : fn24 (l, m) () = some ((l, (numP l m).1), (numP l m).2, ()) := by
  obtain ⟨p, q, e, a, u⟩ := m
  obtain ⟨h1, h2, h3, h4, h5, h6⟩ := h
  simp only at h1 h2 h3 h4 h5 h6
  show law24 (l, (p, q, e, a, ())) () = some ((l, (numP l (p, q, e, a, ())).1), (numP l (p, q, e, a, ())).2, ())
  have e6 : IntKind.i64.wrap (7 - 1) = 6 := by decide
  have e5 : IntKind.i64.wrap (6 - 1) = 5 := by decide
  have e4 : IntKind.i64.wrap (5 - 1) = 4 := by decide
  have e3 : IntKind.i64.wrap (4 - 1) = 3 := by decide
  have e2 : IntKind.i64.wrap (3 - 1) = 2 := by decide
  have e1 : IntKind.i64.wrap (2 - 1) = 1 := by decide
  have e0 : IntKind.i64.wrap (1 - 1) = 0 := by decide
  unfold law24
  simp only [e6, e5, e4, e3, e2, e1, e0]
  by_cases he : e = 0
  · subst he
    by_cases hs : (l.length : Int) < p + 8
    · rw [numP_s hs]
      exact (bifF rfl).trans ((bifT (by (simp only [Bool.and_eq_true, decide_eq_true_eq, IntKind.wrap_i64, if_pos sz5, true_and, and_true, Int.toNat_natCast] <;> omega))).trans rfl)
    · rw [numP_o hs]
      have hw : IntKind.i64.wrap (p + 8) = p + 8 := by rw [IntKind.wrap_i64]; omega
      have hg : ∀ (i : Int) (k : Nat), i.toNat = k → k < 8 → l[(if Try.prog.types[5].size = 1 then Int.toNat p else Int.toNat p * 1) + i.toNat]? = some (l.getD (p.toNat + k) 0) := fun i k hi hk => by
        rw [if_pos sz5, hi]; exact getD_some (by omega)
      have hc := cut8 (l := l) (n := p.toNat) (by omega)
      have hby := cut_byt hb p.toNat 8
      refine (bifF rfl).trans ((bifF (by (simp only [decide_eq_false_iff_not, IntKind.wrap_i64, if_pos sz5] <;> omega))).trans ((bifT (by (simp only [Bool.and_eq_true, decide_eq_true_eq, IntKind.wrap_i64, if_pos sz5, true_and, and_true, Int.toNat_natCast] <;> omega))).trans ((bifT (by (simp only [Bool.and_eq_true, decide_eq_true_eq, IntKind.wrap_i64, if_pos sz5, true_and, and_true, Int.toNat_natCast] <;> omega))).trans ((bindT (hg 7 7 rfl (by decide))).trans ((bifT (by (simp only [Bool.and_eq_true, decide_eq_true_eq, IntKind.wrap_i64, if_pos sz5, true_and, and_true, Int.toNat_natCast] <;> omega))).trans ((bindT (hg 6 6 rfl (by decide))).trans ((bifT (by (simp only [Bool.and_eq_true, decide_eq_true_eq, IntKind.wrap_i64, if_pos sz5, true_and, and_true, Int.toNat_natCast] <;> omega))).trans ((bindT (hg 5 5 rfl (by decide))).trans ((bifT (by (simp only [Bool.and_eq_true, decide_eq_true_eq, IntKind.wrap_i64, if_pos sz5, true_and, and_true, Int.toNat_natCast] <;> omega))).trans ((bindT (hg 4 4 rfl (by decide))).trans ((bifT (by (simp only [Bool.and_eq_true, decide_eq_true_eq, IntKind.wrap_i64, if_pos sz5, true_and, and_true, Int.toNat_natCast] <;> omega))).trans ((bindT (hg 3 3 rfl (by decide))).trans ((bifT (by (simp only [Bool.and_eq_true, decide_eq_true_eq, IntKind.wrap_i64, if_pos sz5, true_and, and_true, Int.toNat_natCast] <;> omega))).trans ((bindT (hg 2 2 rfl (by decide))).trans ((bifT (by (simp only [Bool.and_eq_true, decide_eq_true_eq, IntKind.wrap_i64, if_pos sz5, true_and, and_true, Int.toNat_natCast] <;> omega))).trans ((bindT (hg 1 1 rfl (by decide))).trans ((bifT (by (simp only [Bool.and_eq_true, decide_eq_true_eq, IntKind.wrap_i64, if_pos sz5, true_and, and_true, Int.toNat_natCast] <;> omega))).trans ((bindT (hg 0 0 rfl (by decide))).trans ?_))))))))))))))))))
      simp only [Nat.add_zero]
      generalize l.getD p.toNat 0 = v0 at hc ⊢
      generalize l.getD (p.toNat + 1) 0 = v1 at hc ⊢
      generalize l.getD (p.toNat + 2) 0 = v2 at hc ⊢
      generalize l.getD (p.toNat + 3) 0 = v3 at hc ⊢
      generalize l.getD (p.toNat + 4) 0 = v4 at hc ⊢
      generalize l.getD (p.toNat + 5) 0 = v5 at hc ⊢
      generalize l.getD (p.toNat + 6) 0 = v6 at hc ⊢
      generalize l.getD (p.toNat + 7) 0 = v7 at hc ⊢
      rw [hc] at hby ⊢
      have b0 := hby v0 (by simp)
      have b1 := hby v1 (by simp)
      have b2 := hby v2 (by simp)
      have b3 := hby v3 (by simp)
      have b4 := hby v4 (by simp)
      have b5 := hby v5 (by simp)
      have b6 := hby v6 (by simp)
      have b7 := hby v7 (by simp)
      simp only [hw]
      have s7 : IntKind.u64.wrap (IntKind.u64.wrap (0 * 256) + IntKind.u64.wrap v7) = v7 := by simp only [wu64]; omega
      rw [s7]
      have s6 : IntKind.u64.wrap (IntKind.u64.wrap (v7 * 256) + IntKind.u64.wrap v6) = v7 * 256 + v6 := by simp only [wu64]; omega
      rw [s6]
      have s5 : IntKind.u64.wrap (IntKind.u64.wrap ((v7 * 256 + v6) * 256) + IntKind.u64.wrap v5) = (v7 * 256 + v6) * 256 + v5 := by simp only [wu64]; omega
      rw [s5]
      have s4 : IntKind.u64.wrap (IntKind.u64.wrap (((v7 * 256 + v6) * 256 + v5) * 256) + IntKind.u64.wrap v4) = ((v7 * 256 + v6) * 256 + v5) * 256 + v4 := by simp only [wu64]; omega
      rw [s4]
      have s3 : IntKind.u64.wrap (IntKind.u64.wrap ((((v7 * 256 + v6) * 256 + v5) * 256 + v4) * 256) + IntKind.u64.wrap v3) = (((v7 * 256 + v6) * 256 + v5) * 256 + v4) * 256 + v3 := by simp only [wu64]; omega
      rw [s3]
      have s2 : IntKind.u64.wrap (IntKind.u64.wrap (((((v7 * 256 + v6) * 256 + v5) * 256 + v4) * 256 + v3) * 256) + IntKind.u64.wrap v2) = ((((v7 * 256 + v6) * 256 + v5) * 256 + v4) * 256 + v3) * 256 + v2 := by simp only [wu64]; omega
      rw [s2]
      have s1 : IntKind.u64.wrap (IntKind.u64.wrap ((((((v7 * 256 + v6) * 256 + v5) * 256 + v4) * 256 + v3) * 256 + v2) * 256) + IntKind.u64.wrap v1) = (((((v7 * 256 + v6) * 256 + v5) * 256 + v4) * 256 + v3) * 256 + v2) * 256 + v1 := by simp only [wu64]; omega
      rw [s1]
      have s0 : IntKind.u64.wrap (IntKind.u64.wrap (((((((v7 * 256 + v6) * 256 + v5) * 256 + v4) * 256 + v3) * 256 + v2) * 256 + v1) * 256) + IntKind.u64.wrap v0) = bvI [v0, v1, v2, v3, v4, v5, v6, v7] := by simp only [wu64, bvI]; omega
      rw [s0]
  · rw [numP_e he]
    exact bifT (by simp [he])
theorem flag22 {l : List Int} {m : RM} (hL : l.length ≤ 100000) (h : OkM l m) : fn22 (l, m) () = some ((l, (flagP l m).1), (flagP l m).2, ()) := by
  obtain ⟨p, q, e, a, u⟩ := m
  obtain ⟨h1, h2, h3, h4, h5, h6⟩ := h
  simp only at h1 h2 h3 h4 h5 h6
  show law22 (l, (p, q, e, a, ())) () = some ((l, (flagP l (p, q, e, a, ())).1), (flagP l (p, q, e, a, ())).2, ())
  unfold law22
  by_cases he : e = 0
  · subst he
    by_cases hs : (l.length : Int) < p + 1
    · rw [flagP_s hs]
      exact (bifF rfl).trans ((bifT (by (simp only [Bool.and_eq_true, decide_eq_true_eq, IntKind.wrap_i64, if_pos sz5, true_and, and_true, Int.toNat_natCast] <;> omega))).trans rfl)
    · have hw : IntKind.i64.wrap (p + 1) = p + 1 := by rw [IntKind.wrap_i64]; omega
      have hg : l[(if Try.prog.types[5].size = 1 then Int.toNat p else Int.toNat p * 1) + Int.toNat 0]? = some (l.getD p.toNat 0) := by
        rw [if_pos sz5]; exact getD_some (by omega)
      refine (bifF rfl).trans ((bifF (by (simp only [decide_eq_false_iff_not, IntKind.wrap_i64, if_pos sz5] <;> omega))).trans ((bifT (by (simp only [Bool.and_eq_true, decide_eq_true_eq, IntKind.wrap_i64, if_pos sz5, true_and, and_true, Int.toNat_natCast] <;> omega))).trans ((bifT (by (simp only [Bool.and_eq_true, decide_eq_true_eq, IntKind.wrap_i64, if_pos sz5, true_and, and_true, Int.toNat_natCast] <;> omega))).trans ((bindT hg).trans ?_))))
      by_cases hv : l.getD p.toNat 0 > 1
      · rw [flagP_b hs hv]
        refine (bifT (by rw [decide_eq_true_eq]; exact hv)).trans ((bifT rfl).trans ?_)
        simp only [hw]
      · rw [flagP_o hs hv]
        refine (bifF (by rw [decide_eq_false_iff_not]; exact hv)).trans ((bifT (by (simp only [Bool.and_eq_true, decide_eq_true_eq, IntKind.wrap_i64, if_pos sz5, true_and, and_true, Int.toNat_natCast] <;> omega))).trans ((bindT hg).trans ?_))
        simp only [hw]
  · rw [flagP_e he]
    exact bifT (by simp [he])
theorem ref45 {l : List Int} {m : RM} {e : Int} (he : e ≠ 0) : fn45 (l, m) (e, ()) = some ((l, refP m e), ()) := by
  obtain ⟨p, q, e', a, u⟩ := m
  show law45 (l, (p, q, e', a, ())) (e, ()) = _
  unfold law45 refP
  refine (bifF (by simp [he])).trans ?_
  by_cases h0 : e' = 0
  · subst h0
    exact (bifT rfl).trans (by rw [if_pos rfl])
  · exact (bifF (by simp [h0])).trans (by rw [if_neg h0])
theorem end25 {l : List Int} {m : RM} : ∃ m', fn25 (l, m) () = some ((l, m'), (endP l m).1, (endP l m).2, ()) := by
  obtain ⟨p, q, e, a, u⟩ := m
  show ∃ m', law25 (l, (p, q, e, a, ())) () = _
  unfold law25 endP
  by_cases h0 : e = 0
  · subst h0
    by_cases hp : p < (l.length : Int)
    · exact ⟨_, (bifT rfl).trans ((bifT (by rw [decide_eq_true_eq]; exact hp)).trans ((bifT rfl).trans (by rw [if_pos ⟨hp, rfl⟩])))⟩
    · exact ⟨_, (bifT rfl).trans ((bifF (by rw [decide_eq_false_iff_not]; exact hp)).trans (by rw [if_neg (fun hh => hp hh.1)]))⟩
  · exact ⟨_, (bifF (by simp [h0])).trans (by rw [if_neg (fun hh => h0 hh.2)])⟩
theorem mark19 {l : List Int} {m : RM} (hL : l.length ≤ 100000) (hb : Byt l) (h : OkM l m) : fn19 (l, m) (chst, ()) = some ((l, markP l m [67, 72, 83, 84]), ()) := by
  obtain ⟨p, q, e, a, u⟩ := m
  obtain ⟨h1, h2, h3, h4, h5, h6⟩ := h
  simp only at h1 h2 h3 h4 h5 h6
  show law19 (l, (p, q, e, a, ())) (chst, ()) = some ((l, markP l (p, q, e, a, ()) [67, 72, 83, 84]), ())
  unfold law19
  by_cases he : e = 0
  · subst he
    by_cases hs : (l.length : Int) < p + 4
    · rw [markP_s hs]
      exact (bifF rfl).trans ((bifT (by (simp only [Bool.and_eq_true, decide_eq_true_eq, IntKind.wrap_i64, if_pos sz5, true_and, and_true, Int.toNat_natCast] <;> omega))).trans rfl)
    · have hw : IntKind.i64.wrap (p + 4) = p + 4 := by rw [IntKind.wrap_i64]; omega
      refine (bifF rfl).trans ((bifF (by (simp only [decide_eq_false_iff_not, IntKind.wrap_i64, if_pos sz5] <;> omega))).trans ((bifT (by (simp only [Bool.and_eq_true, decide_eq_true_eq, IntKind.wrap_i64, if_pos sz5, true_and, and_true, Int.toNat_natCast] <;> omega))).trans ((bifT (by (simp only [Bool.and_eq_true, decide_eq_true_eq, IntKind.wrap_i64, if_pos sz5, true_and, and_true, Int.toNat_natCast] <;> omega))).trans ((bifT rfl).trans ((bifT rfl).trans ((bifT rfl).trans ((bifT rfl).trans ((bifT rfl).trans ((bifT rfl).trans ((bifT rfl).trans ((bifT rfl).trans ?_)))))))))))
      have ec : ((strB (cut l (if Try.prog.types[5].size = 1 then 0 + Int.toNat p else 0 + Int.toNat p * 1) (IntKind.i64.wrap (p + 4) - p).toNat)).toList == (strB [67, 72, 83, 84]).toList) = decide (cut l p.toNat 4 = [67, 72, 83, 84]) := by
        rw [if_pos sz5, Nat.zero_add, hw, show (p + 4 - p).toNat = 4 by omega]
        exact str_eq (cut_byt hb _ _) (by intro c hc; simp only [List.mem_cons, List.not_mem_nil, or_false] at hc; omega)
      by_cases hm : cut l p.toNat 4 = [67, 72, 83, 84]
      · rw [markP_o hs hm]
        refine (bifF (c := !_) (by rw [Bool.not_eq_false']; exact ec.trans (decide_eq_true hm))).trans ?_
        simp only [hw]
      · rw [markP_b hs hm]
        refine (bifT (c := !_) (by rw [Bool.not_eq_true']; exact ec.trans (decide_eq_false hm))).trans ((bifT rfl).trans ?_)
        simp only [hw]
  · rw [markP_e he]
    exact bifT (by simp [he])
end Go.Proofs.Ytkmhaoibmmcagaa
