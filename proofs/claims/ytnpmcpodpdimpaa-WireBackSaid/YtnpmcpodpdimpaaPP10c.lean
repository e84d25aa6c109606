/- Plain Lean: what the laws of this program's functions come to, in numbers and lists; no program is run here. -/
import Derived.Test.YtnpmcpodpdimpaaPP10b
set_option linter.unusedVariables false
set_option linter.unusedSimpArgs false
set_option maxRecDepth 100000
namespace Go.Proofs.Ytnpmcpodpdimpaa
open Go Go.Ab Go.Proofs
/- WireBack in plain Lean: the two loops (r10). -/
theorem u8v (n : Int) : IntKind.u8.wrap n = n % 256 := by simp [IntKind.wrap, IntKind.signed, IntKind.bits]
theorem u16v (n : Int) : IntKind.u16.wrap n = n % 65536 := by simp [IntKind.wrap, IntKind.signed, IntKind.bits]
theorem u64e (n : Int) : IntKind.u64.wrap n = n % 18446744073709551616 := by simp [IntKind.wrap, IntKind.signed, IntKind.bits]
noncomputable def wd8 (w : Int) : List Int := [IntKind.u8.wrap w, IntKind.u8.wrap (w.fdiv 256), IntKind.u8.wrap ((w.fdiv 256).fdiv 256), IntKind.u8.wrap (((w.fdiv 256).fdiv 256).fdiv 256), IntKind.u8.wrap ((((w.fdiv 256).fdiv 256).fdiv 256).fdiv 256), IntKind.u8.wrap (((((w.fdiv 256).fdiv 256).fdiv 256).fdiv 256).fdiv 256), IntKind.u8.wrap ((((((w.fdiv 256).fdiv 256).fdiv 256).fdiv 256).fdiv 256).fdiv 256), IntKind.u8.wrap (((((((w.fdiv 256).fdiv 256).fdiv 256).fdiv 256).fdiv 256).fdiv 256).fdiv 256)]
theorem fd256 (n : Int) : n.fdiv 256 = n / 256 := Int.fdiv_eq_ediv_of_nonneg n (by decide)
theorem byte8 (l : List Int) : ∀ c ∈ l.map IntKind.u8.wrap, 0 ≤ c ∧ c < 256 := fun c hc => by
  simp only [List.mem_map] at hc
  obtain ⟨a, _, rfl⟩ := hc
  rw [u8v]; omega
theorem bv8 (w : Int) (h : 0 ≤ w ∧ w < 18446744073709551616) : bv (wd8 w) = w := by
  simp only [wd8, bv, u8v, fd256]; omega
theorem bv2 (w : Int) : bv [IntKind.u8.wrap w, IntKind.u8.wrap (w.fdiv 256)] = w % 65536 := by
  simp only [bv, u8v, fd256]; omega
theorem fn30o8 (w : Int) (h : 0 ≤ w ∧ w < 18446744073709551616) : fn30 (wd8 w, ()) = some (w, ()) := by
  rw [fn30_v (wd8 w) (by simp [wd8]) (byte8 [w, w.fdiv 256, (w.fdiv 256).fdiv 256, ((w.fdiv 256).fdiv 256).fdiv 256, (((w.fdiv 256).fdiv 256).fdiv 256).fdiv 256, ((((w.fdiv 256).fdiv 256).fdiv 256).fdiv 256).fdiv 256, (((((w.fdiv 256).fdiv 256).fdiv 256).fdiv 256).fdiv 256).fdiv 256, ((((((w.fdiv 256).fdiv 256).fdiv 256).fdiv 256).fdiv 256).fdiv 256).fdiv 256]), bv8 w h]
theorem fn30o2 (w : Int) : fn30 ([IntKind.u8.wrap w, IntKind.u8.wrap (w.fdiv 256)], ()) = some (w % 65536, ()) := by
  rw [fn30_v [IntKind.u8.wrap w, IntKind.u8.wrap (w.fdiv 256)] (by simp) (byte8 [w, w.fdiv 256]), bv2]
noncomputable def kd (v : OpT) : Int := (IntKind.i64.wrap (Int.tmod v.fst 6 + 6)).tmod 6
noncomputable def wordB (v : OpT) : List Int :=
  bif kd v == 1 then [IntKind.u8.wrap (IntKind.u64.wrap v.snd.fst), IntKind.u8.wrap ((IntKind.u64.wrap v.snd.fst).fdiv 256)]
  else bif kd v == 2 then [bif v.snd.snd.fst then 1 else 0]
  else bif kd v == 3 then [mkB v.snd.snd.snd.fst 0, mkB v.snd.snd.snd.fst 1, mkB v.snd.snd.snd.fst 2, mkB v.snd.snd.snd.fst 3]
  else bif kd v == 4 then strL v.snd.snd.snd.fst else wd8 (IntKind.u64.wrap v.snd.fst)
theorem wordB_len (v : OpT) (hs : v.snd.snd.snd.fst.size ≤ 50) : (wordB v).length ≤ 50 := by
  unfold wordB
  cases kd v == 1 <;> cases kd v == 2 <;> cases kd v == 3 <;> cases kd v == 4 <;> simp [strL_len, wd8] <;> omega
theorem lawc5 (N0 N1 : Nat) (x : ((List OpT) × Unit)) (k0 : Nat → List Int → Option (Bool × Unit)) (n : Nat) (i : Int) {a a' : Nat} {l l' : List Int} (h1 : a = a') (h3 : l = l') : law5o0 N0 N1 x k0 n i a l = law5o0 N0 N1 x k0 n i a' l' := by
  subst h1; subst h3; rfl
theorem put5 (N0 N1 : Nat) (x : ((List OpT) × Unit)) (k0 : Nat → List Int → Option (Bool × Unit)) (n j : Nat) (v : OpT) (hv : x.fst[j]? = some v) (hs : v.snd.snd.snd.fst.size ≤ 50) (L : List Int) (hL : L.length ≤ 100000) :
    law5o0 N0 N1 x k0 (n + 1) j L.length L = law5o0 N0 N1 x k0 n (IntKind.i64.wrap ((j : Int) + 1)) (L ++ wordB v).length (L ++ wordB v) := by
  have hj := (List.getElem?_eq_some_iff.1 hv).1
  have hx : x.fst[((j : Int)).toNat]? = some v := by rw [Int.toNat_natCast]; exact hv
  have c0 : decide ((j : Int) < ((List.length x.fst : Nat) : Int)) = true := by rw [decide_eq_true_eq]; omega
  have c1 : (decide (0 ≤ (j : Int)) && decide ((j : Int) < ((List.length x.fst : Nat) : Int))) = true := by rw [c0, Bool.and_true, decide_eq_true_eq]; omega
  conv => lhs; unfold law5o0
  unfold wordB
  cases k1e : kd v == 1
  · cases k2e : kd v == 2
    · cases k3e : kd v == 3
      · cases k4e : kd v == 4
        · refine (bifT c0).trans ((bifT c1).trans ((bindT hx).trans ((bifF k1e).trans ((bifF k2e).trans ((bifF k3e).trans ((bifF k4e).trans ?_))))))
          refine (bifT c1).trans ((bindT hx).trans ((bifT (by (simp only [Bool.and_eq_true, decide_eq_true_eq, List.length_append, List.length_cons, List.length_nil, by5, Nat.mul_one, true_and, and_true] <;> omega))).trans ((bifT (by (simp only [Bool.and_eq_true, decide_eq_true_eq, List.length_append, List.length_cons, List.length_nil, by5, Nat.mul_one, true_and, and_true] <;> omega))).trans ((bifT (by (simp only [Bool.and_eq_true, decide_eq_true_eq, List.length_append, List.length_cons, List.length_nil, by5, Nat.mul_one, true_and, and_true] <;> omega))).trans ((bifT (by (simp only [Bool.and_eq_true, decide_eq_true_eq, List.length_append, List.length_cons, List.length_nil, by5, Nat.mul_one, true_and, and_true] <;> omega))).trans ((bifT (by (simp only [Bool.and_eq_true, decide_eq_true_eq, List.length_append, List.length_cons, List.length_nil, by5, Nat.mul_one, true_and, and_true] <;> omega))).trans ((bifT (by (simp only [Bool.and_eq_true, decide_eq_true_eq, List.length_append, List.length_cons, List.length_nil, by5, Nat.mul_one, true_and, and_true] <;> omega))).trans ((bifT (by (simp only [Bool.and_eq_true, decide_eq_true_eq, List.length_append, List.length_cons, List.length_nil, by5, Nat.mul_one, true_and, and_true] <;> omega))).trans ((bifT (by (simp only [Bool.and_eq_true, decide_eq_true_eq, List.length_append, List.length_cons, List.length_nil, by5, Nat.mul_one, true_and, and_true] <;> omega))).trans ?_)))))))))
          refine lawc5 N0 N1 x k0 n _ (by rw [List.length_append]; rfl) ?_
          rw [p8]; simp only [List.append_eq, List.append_assoc]; rfl
        · have hl := strL50 _ hs
          refine (bifT c0).trans ((bifT c1).trans ((bindT hx).trans ((bifF k1e).trans ((bifF k2e).trans ((bifF k3e).trans ((bifT k4e).trans ?_))))))
          refine (bifT c1).trans ((bindT hx).trans ((bifT (by (simp only [Bool.and_eq_true, decide_eq_true_eq, List.length_append, List.length_cons, List.length_nil, by5, Nat.mul_one, true_and, and_true] <;> omega))).trans ?_))
          exact lawc5 N0 N1 x k0 n _ (by rw [List.length_append]; rfl) rfl
      · refine (bifT c0).trans ((bifT c1).trans ((bindT hx).trans ((bifF k1e).trans ((bifF k2e).trans ((bifT k3e).trans ?_)))))
        refine (bifT c1).trans ((bindT hx).trans ((bifT ?_).trans ?_))
        · simp [by5]; omega
        · exact lawc5 N0 N1 x k0 n _ (by rw [List.length_append]; rfl) rfl
    · cases hb : v.snd.snd.fst
      · refine (bifT c0).trans ((bifT c1).trans ((bindT hx).trans ((bifF k1e).trans ((bifT k2e).trans ?_))))
        refine (bifT c1).trans ((bindT hx).trans ((bifF hb).trans ((bifT (by (simp only [Bool.and_eq_true, decide_eq_true_eq, List.length_append, List.length_cons, List.length_nil, by5, Nat.mul_one, true_and, and_true] <;> omega))).trans ?_)))
        exact lawc5 N0 N1 x k0 n _ (by rw [List.length_append]; rfl) rfl
      · refine (bifT c0).trans ((bifT c1).trans ((bindT hx).trans ((bifF k1e).trans ((bifT k2e).trans ?_))))
        refine (bifT c1).trans ((bindT hx).trans ((bifT hb).trans ((bifT (by (simp only [Bool.and_eq_true, decide_eq_true_eq, List.length_append, List.length_cons, List.length_nil, by5, Nat.mul_one, true_and, and_true] <;> omega))).trans ?_)))
        exact lawc5 N0 N1 x k0 n _ (by rw [List.length_append]; rfl) rfl
  · refine (bifT c0).trans ((bifT c1).trans ((bindT hx).trans ((bifT k1e).trans ?_)))
    refine (bifT c1).trans ((bindT hx).trans ((bifT (by (simp only [Bool.and_eq_true, decide_eq_true_eq, List.length_append, List.length_cons, List.length_nil, by5, Nat.mul_one, true_and, and_true] <;> omega))).trans ((bifT (by (simp only [Bool.and_eq_true, decide_eq_true_eq, List.length_append, List.length_cons, List.length_nil, by5, Nat.mul_one, true_and, and_true] <;> omega))).trans ?_)))
    refine lawc5 N0 N1 x k0 n _ (by rw [List.length_append]; rfl) ?_
    rw [p8]; simp only [List.append_eq, List.append_assoc]; rfl
theorem puts5 (N0 N1 : Nat) (x : ((List OpT) × Unit)) (k0 : Nat → List Int → Option (Bool × Unit)) (hlen : x.fst.length ≤ 100) (hs : ∀ (j : Nat) (v : OpT), x.fst[j]? = some v → v.snd.snd.snd.fst.size ≤ 50) : ∀ (n j : Nat) (L : List Int), L.length ≤ 50 * j → j ≤ x.fst.length → x.fst.length - j < n →
    law5o0 N0 N1 x k0 n j L.length L = k0 (L ++ (x.fst.drop j).flatMap wordB).length (L ++ (x.fst.drop j).flatMap wordB)
  | 0, j, L, _, _, h => by omega
  | n + 1, j, L, h1, h2, h3 => by
    by_cases hj : j < x.fst.length
    · have hB := wordB_len _ (hs j _ (List.getElem?_eq_getElem hj))
      rw [put5 N0 N1 x k0 n j _ (List.getElem?_eq_getElem hj) (hs j _ (List.getElem?_eq_getElem hj)) L (by omega), wrapNat j (by omega)]
      rw [puts5 N0 N1 x k0 hlen hs n (j + 1) _ (by rw [List.length_append]; omega) (by omega) (by omega)]
      rw [List.drop_eq_getElem_cons hj, List.flatMap_cons, List.append_assoc]
    · rw [List.drop_eq_nil_of_le (by omega), List.flatMap_nil, List.append_nil]
      conv => lhs; unfold law5o0
      exact bifF (by rw [decide_eq_false_iff_not]; omega)
end Go.Proofs.Ytnpmcpodpdimpaa
