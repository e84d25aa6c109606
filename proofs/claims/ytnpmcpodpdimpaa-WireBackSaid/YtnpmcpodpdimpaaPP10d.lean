/- Plain Lean: what the laws of this program's functions come to, in numbers and lists; no program is run here. -/
import Derived.Test.YtnpmcpodpdimpaaPP10c
set_option linter.unusedVariables false
set_option linter.unusedSimpArgs false
set_option maxRecDepth 100000
namespace Go.Proofs.Ytnpmcpodpdimpaa
open Go Go.Ab Go.Proofs
/- WireBack in plain Lean: reading back (r10). -/
theorem lawd5 (N0 N1 : Nat) (x : ((List OpT) × Unit)) (M : List Int) (k0 : Option (Bool × Unit)) (k1 : Int → Int → Int → Int → Option (Bool × Unit)) (n : Nat) (i : Int) {a a' b : Int} (h1 : a = a') : law5o1o1 N0 N1 x M k0 k1 n i a b 0 0 = law5o1o1 N0 N1 x M k0 k1 n i a' b 0 0 := by
  subst h1; rfl
theorem strB_strL (s : ByteArray) : (strB (strL s)).toList = s.toList := by
  have h : strB (strL s) = s := by
    have key : ∀ (l : List UInt8) (r : ByteArray), (l.map fun b => (b.toNat : Int)).foldl (fun r n => r.push (UInt8.ofNat n.toNat)) r = ⟨r.data ++ l.toArray⟩ := by
      intro l
      induction l with
      | nil => intro r; simp
      | cons b l ih =>
        intro r
        rw [List.map_cons, List.foldl_cons, ih]
        simp [ByteArray.push]
    unfold strB strL
    rw [key]
    cases s
    simp [ByteArray.empty, ByteArray.emptyWithCapacity]
    rfl
  rw [h]
theorem cutM (pre B post : List Int) (m : Nat) (hm : m = B.length) : cut (pre ++ B ++ post) pre.length m = B := by
  subst hm
  simp [cut]
theorem getM (pre B post : List Int) (i : Nat) (b : Int) (hb : B[i]? = some b) : (pre ++ B ++ post)[pre.length + i]? = some b := by
  have hi := (List.getElem?_eq_some_iff.1 hb).1
  rw [List.append_assoc, List.getElem?_append_right (by omega), Nat.add_sub_cancel_left, List.getElem?_append_left hi, hb]
theorem get5 (N0 N1 : Nat) (x : ((List OpT) × Unit)) (k0 : Option (Bool × Unit)) (k1 : Int → Int → Int → Int → Option (Bool × Unit)) (n j : Nat) (v : OpT) (hv : x.fst[j]? = some v) (hs : v.snd.snd.snd.fst.size ≤ 50) (hN : -9223372036854775808 ≤ v.snd.fst ∧ v.snd.fst ≤ 9223372036854775807) (pre post : List Int) (last : Int) (M : List Int) (hM : M = pre ++ wordB v ++ post) (hL : M.length ≤ 100000) :
    law5o1o1 N0 N1 x M k0 k1 (n + 1) j (pre.length : Int) last 0 0 = law5o1o1 N0 N1 x M k0 k1 n (IntKind.i64.wrap ((j : Int) + 1)) (((pre ++ wordB v).length : Nat) : Int) (pre.length : Int) 0 0 := by
  have hj := (List.getElem?_eq_some_iff.1 hv).1
  have hx : x.fst[((j : Int)).toNat]? = some v := by rw [Int.toNat_natCast]; exact hv
  have c0 : decide ((j : Int) < ((List.length x.fst : Nat) : Int)) = true := by rw [decide_eq_true_eq]; omega
  have c1 : (decide (0 ≤ (j : Int)) && decide ((j : Int) < ((List.length x.fst : Nat) : Int))) = true := by rw [c0, Bool.and_true, decide_eq_true_eq]; omega
  have hlM : M.length = pre.length + (wordB v).length + post.length := by rw [hM]; simp [Nat.add_assoc]
  conv => lhs; unfold law5o1o1
  generalize hB : wordB v = B at hM hlM ⊢
  have hcut : ∀ (i : Int), i.toNat = B.length → cut M (if Try.prog.types[5].size = 1 then ((pre.length : Nat) : Int).toNat else ((pre.length : Nat) : Int).toNat * 1) i.toNat = B := fun i hi => by
    rw [if_pos sz5, Int.toNat_natCast, hM]; exact cutM pre B post _ hi
  have hget : ∀ (i : Nat) (b : Int), B[i]? = some b → M[(if Try.prog.types[5].size = 1 then ((pre.length : Nat) : Int).toNat else ((pre.length : Nat) : Int).toNat * 1) + i]? = some b := fun i b hb => by
    rw [if_pos sz5, Int.toNat_natCast, hM]; exact getM pre B post i b hb
  have hpl : (((pre ++ B).length : Nat) : Int) = (pre.length : Int) + (B.length : Int) := by simp
  unfold wordB at hB
  cases k1e : kd v == 1
  · cases k2e : kd v == 2
    · cases k3e : kd v == 3
      · cases k4e : kd v == 4
        · rw [k1e, k2e, k3e, k4e] at hB
          simp only [cond_false] at hB
          have hlB : B.length = 8 := by rw [← hB]; rfl
          refine (bifT c0).trans ((bifT c1).trans ((bindT hx).trans ((bifF k1e).trans ((bifF k2e).trans ((bifF k3e).trans ((bifF k4e).trans ?_))))))
          refine (bifF rfl).trans ((bifF (by (simp only [decide_eq_false_iff_not, IntKind.wrap_i64, if_pos sz5] <;> omega))).trans ((bifT (by (simp only [Bool.and_eq_true, decide_eq_true_eq, IntKind.wrap_i64, if_pos sz5, true_and, and_true, Int.toNat_natCast] <;> omega))).trans ((bifT (by (simp only [Bool.and_eq_true, decide_eq_true_eq, IntKind.wrap_i64, if_pos sz5, true_and, and_true, Int.toNat_natCast] <;> omega))).trans ((bifT (by (simp only [Bool.and_eq_true, decide_eq_true_eq, IntKind.wrap_i64, if_pos sz5, true_and, and_true, Int.toNat_natCast] <;> omega))).trans ((bindT (v := (IntKind.u64.wrap v.snd.fst, ())) ?_).trans ((bifT c1).trans ((bindT hx).trans ((bifF ?_).trans ?_))))))))
          · rw [hcut _ (by rw [IntKind.wrap_i64]; omega), ← hB]; exact fn30o8 _ (u64v _)
          · simp only [bne_eq_false_iff_eq, u64e, IntKind.wrap_i64]; omega
          · exact lawd5 N0 N1 x M k0 k1 n _ (by rw [IntKind.wrap_i64, hpl]; omega)
        · rw [k1e, k2e, k3e, k4e] at hB
          simp only [cond_false, cond_true] at hB
          have hlB : B.length = v.snd.snd.snd.fst.size := by rw [← hB, strL_len]
          refine (bifT c0).trans ((bifT c1).trans ((bindT hx).trans ((bifF k1e).trans ((bifF k2e).trans ((bifF k3e).trans ((bifT k4e).trans ?_))))))
          refine (bifT c1).trans ((bindT hx).trans ((bifF (by (simp only [decide_eq_false_iff_not, IntKind.wrap_i64, if_pos sz5] <;> omega))).trans ((bifF rfl).trans ((bifF (by (simp only [decide_eq_false_iff_not, IntKind.wrap_i64, if_pos sz5] <;> omega))).trans ((bifT (by (simp only [Bool.and_eq_true, decide_eq_true_eq, IntKind.wrap_i64, if_pos sz5, true_and, and_true, Int.toNat_natCast] <;> omega))).trans ((bifT (by (simp only [Bool.and_eq_true, decide_eq_true_eq, IntKind.wrap_i64, if_pos sz5, true_and, and_true, Int.toNat_natCast] <;> omega))).trans ((bindT (v := B) ?_).trans ((bifT c1).trans ((bindT hx).trans ((bifF ?_).trans ?_))))))))))
          · rw [hcut _ (by rw [IntKind.wrap_i64]; omega)]; exact cloneL B (by omega)
          · rw [← hB, strB_strL]; simp
          · exact lawd5 N0 N1 x M k0 k1 n _ (by rw [IntKind.wrap_i64, hpl]; omega)
      · rw [k1e, k2e, k3e] at hB
        simp only [cond_false, cond_true] at hB
        have hlB : B.length = 4 := by rw [← hB]; rfl
        refine (bifT c0).trans ((bifT c1).trans ((bindT hx).trans ((bifF k1e).trans ((bifF k2e).trans ((bifT k3e).trans ?_)))))
        refine (bifT c1).trans ((bindT hx).trans ((bifF rfl).trans ((bifF (by (simp only [decide_eq_false_iff_not, IntKind.wrap_i64, if_pos sz5] <;> omega))).trans ((bifT (by (simp only [Bool.and_eq_true, decide_eq_true_eq, IntKind.wrap_i64, if_pos sz5, true_and, and_true, Int.toNat_natCast] <;> omega))).trans ((bifT (by (simp only [Bool.and_eq_true, decide_eq_true_eq, IntKind.wrap_i64, if_pos sz5, true_and, and_true, Int.toNat_natCast] <;> omega))).trans ((bifT (by (simp only [Bool.and_eq_true, decide_eq_true_eq, IntKind.wrap_i64, if_pos sz5, true_and, and_true, Int.toNat_natCast] <;> omega))).trans ((bindT (hget 0 _ (by rw [← hB]; rfl))).trans ((bindT (hget 1 _ (by rw [← hB]; rfl))).trans ((bindT (hget 2 _ (by rw [← hB]; rfl))).trans ((bindT (hget 3 _ (by rw [← hB]; rfl))).trans ((bifF ?_).trans ?_)))))))))))
        · have e : ∀ a : Int, (a == a) = true := fun a => beq_self_eq_true a
          have z : Int.toNat 0 = 0 := rfl
          simp only [mkB, sz5, z, Nat.zero_mul, Nat.add_zero, Nat.zero_add, Nat.sub_zero, Nat.reduceAdd, e, Bool.and_true, Bool.not_true]
        · exact lawd5 N0 N1 x M k0 k1 n _ (by rw [IntKind.wrap_i64, hpl]; omega)
    · rw [k1e, k2e] at hB
      simp only [cond_false, cond_true] at hB
      have hlB : B.length = 1 := by rw [← hB]; rfl
      have hg := hget 0 _ (by rw [← hB]; rfl)
      refine (bifT c0).trans ((bifT c1).trans ((bindT hx).trans ((bifF k1e).trans ((bifT k2e).trans ?_))))
      refine (bifF rfl).trans ((bifF (by (simp only [decide_eq_false_iff_not, IntKind.wrap_i64, if_pos sz5] <;> omega))).trans ((bifT (by (simp only [Bool.and_eq_true, decide_eq_true_eq, IntKind.wrap_i64, if_pos sz5, true_and, and_true, Int.toNat_natCast] <;> omega))).trans ((bifT (by (simp only [Bool.and_eq_true, decide_eq_true_eq, IntKind.wrap_i64, if_pos sz5, true_and, and_true, Int.toNat_natCast] <;> omega))).trans ((bifT (by (simp only [Bool.and_eq_true, decide_eq_true_eq, IntKind.wrap_i64, if_pos sz5, true_and, and_true, Int.toNat_natCast] <;> omega))).trans ((bindT hg).trans ((bifF ?_).trans ((bifT (by (simp only [Bool.and_eq_true, decide_eq_true_eq, IntKind.wrap_i64, if_pos sz5, true_and, and_true, Int.toNat_natCast] <;> omega))).trans ((bifT (by (simp only [Bool.and_eq_true, decide_eq_true_eq, IntKind.wrap_i64, if_pos sz5, true_and, and_true, Int.toNat_natCast] <;> omega))).trans ((bindT hg).trans ((bifT c1).trans ((bindT hx).trans ((bifF ?_).trans ?_))))))))))))
      · cases v.snd.snd.fst <;> rfl
      · cases v.snd.snd.fst <;> rfl
      · exact lawd5 N0 N1 x M k0 k1 n _ (by rw [IntKind.wrap_i64, hpl]; omega)
  · rw [k1e] at hB
    simp only [cond_true] at hB
    have hlB : B.length = 2 := by rw [← hB]; rfl
    refine (bifT c0).trans ((bifT c1).trans ((bindT hx).trans ((bifT k1e).trans ?_)))
    refine (bifF rfl).trans ((bifF (by (simp only [decide_eq_false_iff_not, IntKind.wrap_i64, if_pos sz5] <;> omega))).trans ((bifT (by (simp only [Bool.and_eq_true, decide_eq_true_eq, IntKind.wrap_i64, if_pos sz5, true_and, and_true, Int.toNat_natCast] <;> omega))).trans ((bifT (by (simp only [Bool.and_eq_true, decide_eq_true_eq, IntKind.wrap_i64, if_pos sz5, true_and, and_true, Int.toNat_natCast] <;> omega))).trans ((bifT (by (simp only [Bool.and_eq_true, decide_eq_true_eq, IntKind.wrap_i64, if_pos sz5, true_and, and_true, Int.toNat_natCast] <;> omega))).trans ((bindT (v := (IntKind.u64.wrap v.snd.fst % 65536, ())) ?_).trans ((bifF ?_).trans ((bifF ?_).trans ((bifT c1).trans ((bindT hx).trans ((bifF ?_).trans ?_))))))))))
    · rw [hcut _ (by rw [IntKind.wrap_i64]; omega), ← hB]; exact fn30o2 _
    · simp only [decide_eq_false_iff_not, IntKind.wrap_i64]; omega
    · simp only [decide_eq_false_iff_not, IntKind.wrap_i64]; omega
    · simp only [bne_eq_false_iff_eq, u64e, u16v, IntKind.wrap_i64]; omega
    · exact lawd5 N0 N1 x M k0 k1 n _ (by rw [IntKind.wrap_i64, hpl]; omega)
theorem gets5 (N0 N1 : Nat) (x : ((List OpT) × Unit)) (k0 : Option (Bool × Unit)) (k1 : Int → Int → Int → Int → Option (Bool × Unit)) (hlen : x.fst.length ≤ 100) (hs : ∀ (j : Nat) (v : OpT), x.fst[j]? = some v → v.snd.snd.snd.fst.size ≤ 50) (hN : ∀ (j : Nat) (v : OpT), x.fst[j]? = some v → -9223372036854775808 ≤ v.snd.fst ∧ v.snd.fst ≤ 9223372036854775807) (M : List Int) (hL : M.length ≤ 100000) : ∀ (n j : Nat) (pre : List Int) (last : Int), M = pre ++ (x.fst.drop j).flatMap wordB → j ≤ x.fst.length → x.fst.length - j < n →
    ∃ b : Int, law5o1o1 N0 N1 x M k0 k1 n j (pre.length : Int) last 0 0 = k1 (M.length : Int) b 0 0
  | 0, j, pre, last, _, _, h => by omega
  | n + 1, j, pre, last, h1, h2, h3 => by
    by_cases hj : j < x.fst.length
    · rw [List.drop_eq_getElem_cons hj, List.flatMap_cons, ← List.append_assoc] at h1
      rw [get5 N0 N1 x k0 k1 n j _ (List.getElem?_eq_getElem hj) (hs j _ (List.getElem?_eq_getElem hj)) (hN j _ (List.getElem?_eq_getElem hj)) pre _ last M h1 hL, wrapNat j (by omega)]
      exact gets5 N0 N1 x k0 k1 hlen hs hN M hL n (j + 1) _ _ h1 (by omega) (by omega)
    · rw [List.drop_eq_nil_of_le (by omega), List.flatMap_nil, List.append_nil] at h1
      refine ⟨last, ?_⟩
      conv => lhs; unfold law5o1o1
      rw [h1]
      exact bifF (by rw [decide_eq_false_iff_not]; omega)
theorem flat_len (f : OpT → List Int) : ∀ l : List OpT, (∀ v ∈ l, (f v).length ≤ 50) → (l.flatMap f).length ≤ 50 * l.length
  | [], _ => by simp
  | v :: l, h => by
    have h1 := h v (by simp)
    have h2 := flat_len f l fun u hu => h u (by simp [hu])
    rw [List.flatMap_cons, List.length_append, List.length_cons]; omega
theorem back5 (N0 N1 : Nat) (h : 101 ≤ N0) (h' : 101 ≤ N1) (x : ((List OpT) × Unit)) (hN : ∀ (j : Nat) (v : OpT), x.fst[j]? = some v → -9223372036854775808 ≤ v.snd.fst ∧ v.snd.fst ≤ 9223372036854775807) : law5 N0 N1 x = some (true, ()) := by
  unfold law5
  obtain ⟨b, hb, hf⟩ := fewX (10 ^ 30) (by decide) x
  refine (bindT (v := (b, ())) hb).trans ?_
  cases b with
  | false => rfl
  | true =>
    obtain ⟨h1, h2⟩ := hf rfl
    simp only [Bool.not_true, cond_false]
    have hl := flat_len wordB x.fst fun v hv => by
      obtain ⟨i, hi⟩ := List.getElem?_of_mem hv
      exact wordB_len v (h2 i v hi)
    refine (puts5 N0 N1 x _ h1 h2 N0 0 [] (by simp) (by omega) (by omega)).trans ?_
    rw [List.nil_append, List.drop_zero]
    generalize hM : x.fst.flatMap wordB = M at hl ⊢
    refine (bifT (by rw [decide_eq_true_eq])).trans ((bindT (cloneL M (by omega))).trans ((bindT (cloneL M (by omega))).trans ?_))
    obtain ⟨q, hq⟩ := gets5 N0 N1 x (some (false, ())) (fun w117 w118 w119 w120 => (bif decide (w117 < ((List.length M : Nat) : Int)) then (bif w119 == 0 then some ((false, ())) else (bif w119 == 0 then (bif w120 == 0 then some ((true, ())) else some ((false, ()))) else some ((false, ())))) else (bif w119 == 0 then (bif w120 == 0 then some ((true, ())) else some ((false, ()))) else some ((false, ()))))) h1 h2 hN M (by omega) N1 0 [] 0 (by rw [List.nil_append, List.drop_zero, hM]) (by omega) (by omega)
    refine Eq.trans hq ?_
    exact (bifF (by rw [decide_eq_false_iff_not]; omega)).trans rfl
theorem true5o (y : Sh.Ts [.sl OpSh]) (hy : Sh.oks [.sl OpSh] y) : fn5 y = some (true, ()) := back5 (10 ^ 30) (10 ^ 30) (by decide) (by decide) y fun j v hv => by
  have h1 := hy.1.1 v (List.mem_of_getElem? hv)
  exact h1.2.1
end Go.Proofs.Ytnpmcpodpdimpaa
