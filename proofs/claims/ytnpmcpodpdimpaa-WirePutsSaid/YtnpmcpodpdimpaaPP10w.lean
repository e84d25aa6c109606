/- Plain Lean: what the laws of this program's functions come to, in numbers and lists; no program is run here. -/
import Derived.Test.YtnpmcpodpdimpaaPP10
set_option linter.unusedVariables false
set_option linter.unusedSimpArgs false
set_option maxRecDepth 100000
namespace Go.Proofs.Ytnpmcpodpdimpaa
open Go Go.Ab Go.Proofs
/- WirePuts in plain Lean (r10). -/
theorem bifT {α : Type} {c : Bool} {a b : α} (h : c = true) : (bif c then a else b) = a := by subst h; rfl
theorem bifF {α : Type} {c : Bool} {a b : α} (h : c = false) : (bif c then a else b) = b := by subst h; rfl
theorem bindT {α β : Type} {o : Option α} {v : α} {f : α → Option β} (h : o = some v) : Option.bind o f = f v := by subst h; rfl
theorem cloneL (l : List Int) (h : l.length ≤ 1000000) : fn27 (l, ()) = some l := by
  unfold fn27 law27
  rw [by5, show (decide (0 = ([] : List Int).length) && (decide ((0 + List.length (l, ()).fst) * 1 ≤ 140737488355328) && decide (0 + List.length (l, ()).fst ≤ 9223372036854775807))) = true from by simp; omega]
  rw [cond_true, List.nil_append, Nat.zero_add, decide_eq_true rfl]
  rfl
noncomputable def mkB (s : ByteArray) (k : Nat) : Int := bif decide (k < s.size) then ((s.data.toList.getD k 0).1.toNat : Int) else 0
theorem mark20 (s : ByteArray) : fn20 (s, ()) = some [mkB s 0, mkB s 1, mkB s 2, mkB s 3] := by
  unfold fn20 law20
  have e1 : IntKind.i64.wrap (0 + 1) = 1 := by decide
  have e2 : IntKind.i64.wrap (1 + 1) = 2 := by decide
  have e3 : IntKind.i64.wrap (2 + 1) = 3 := by decide
  simp only [e1, e2, e3, mkB]
  have c0 : decide ((0 : Int) < (s.size : Int)) = decide (0 < s.size) := by rw [decide_eq_decide]; omega
  have c1 : decide ((1 : Int) < (s.size : Int)) = decide (1 < s.size) := by rw [decide_eq_decide]; omega
  have c2 : decide ((2 : Int) < (s.size : Int)) = decide (2 < s.size) := by rw [decide_eq_decide]; omega
  have c3 : decide ((3 : Int) < (s.size : Int)) = decide (3 < s.size) := by rw [decide_eq_decide]; omega
  simp only [c0, c1, c2, c3]
  cases h0 : decide (0 < s.size) <;> cases h1 : decide (1 < s.size) <;> cases h2 : decide (2 < s.size) <;> cases h3 : decide (3 < s.size) <;> first
    | rfl
    | (simp only [decide_eq_true_eq, decide_eq_false_iff_not] at h0 h1 h2 h3; omega)
theorem lawc (N0 : Nat) (x : ((List OpT) × Unit)) (k0 : Nat → Nat → List Int → List Int → Option (Bool × Unit)) (n : Nat) (i : Int) {a a' c c' : Nat} {l l' m m' : List Int} (h1 : a = a') (h2 : c = c') (h3 : l = l') (h4 : m = m') : law4o0 N0 x k0 n a i c l m = law4o0 N0 x k0 n a' i c' l' m' := by
  subst h1; subst h2; subst h3; subst h4; rfl
theorem strL50 (s : ByteArray) (h : s.size ≤ 50) : (strL s).length ≤ 50 := by rw [strL_len]; exact h
theorem round4 (N0 : Nat) (x : ((List OpT) × Unit)) (k0 : Nat → Nat → List Int → List Int → Option (Bool × Unit)) (n j : Nat) (v : OpT) (hv : x.fst[j]? = some v) (hs : v.snd.snd.snd.fst.size ≤ 50) (L : List Int) (hL : L.length ≤ 100000) :
    ∃ B : List Int, B.length ≤ 50 ∧ law4o0 N0 x k0 (n + 1) L.length j L.length L L = law4o0 N0 x k0 n (L ++ B).length (IntKind.i64.wrap ((j : Int) + 1)) (L ++ B).length (L ++ B) (L ++ B) := by
  have hj := (List.getElem?_eq_some_iff.1 hv).1
  have hx : x.fst[((j : Int)).toNat]? = some v := by rw [Int.toNat_natCast]; exact hv
  have c0 : decide ((j : Int) < ((List.length x.fst : Nat) : Int)) = true := by rw [decide_eq_true_eq]; omega
  have c1 : (decide (0 ≤ (j : Int)) && decide ((j : Int) < ((List.length x.fst : Nat) : Int))) = true := by rw [c0, Bool.and_true, decide_eq_true_eq]; omega
  cases k0e : (IntKind.i64.wrap (Int.tmod v.fst 6 + 6)).tmod 6 == 0
  · cases k1e : (IntKind.i64.wrap (Int.tmod v.fst 6 + 6)).tmod 6 == 1
    · cases k2e : (IntKind.i64.wrap (Int.tmod v.fst 6 + 6)).tmod 6 == 2
      · cases k3e : (IntKind.i64.wrap (Int.tmod v.fst 6 + 6)).tmod 6 == 3
        · cases k4e : (IntKind.i64.wrap (Int.tmod v.fst 6 + 6)).tmod 6 == 4
          · refine ⟨[], by simp, ?_⟩
            conv => lhs; unfold law4o0
            refine (bifT c0).trans ((bifT c1).trans ((bindT hx).trans ((bifF k0e).trans ((bifF k1e).trans ((bifF k2e).trans ((bifF k3e).trans ((bifF k4e).trans ?_)))))))
            rw [List.append_nil]
          · have hl := strL50 _ hs
            refine ⟨strL v.snd.snd.snd.fst, hl, ?_⟩
            conv => lhs; unfold law4o0
            refine (bifT c0).trans ((bifT c1).trans ((bindT hx).trans ((bifF k0e).trans ((bifF k1e).trans ((bifF k2e).trans ((bifF k3e).trans ((bifT k4e).trans ?_)))))))
            refine (bifT c1).trans ((bindT hx).trans ((bifT (by (simp only [Bool.and_eq_true, decide_eq_true_eq, List.length_append, List.length_cons, List.length_nil, by5, Nat.mul_one, true_and, and_true] <;> omega))).trans ((bifT c1).trans ((bindT hx).trans ((bifT (by (simp only [Bool.and_eq_true, decide_eq_true_eq, List.length_append, List.length_cons, List.length_nil, by5, Nat.mul_one, true_and, and_true] <;> omega))).trans ?_)))))
            exact lawc N0 x k0 n _ (by rw [List.length_append]) (by rw [List.length_append]) rfl rfl
        · refine ⟨[mkB v.snd.snd.snd.fst 0, mkB v.snd.snd.snd.fst 1, mkB v.snd.snd.snd.fst 2, mkB v.snd.snd.snd.fst 3], by simp, ?_⟩
          conv => lhs; unfold law4o0
          refine (bifT c0).trans ((bifT c1).trans ((bindT hx).trans ((bifF k0e).trans ((bifF k1e).trans ((bifF k2e).trans ((bifT k3e).trans ?_))))))
          refine (bifT c1).trans ((bindT hx).trans ((bifT ?_).trans ((bifT c1).trans ((bindT hx).trans ((bindT (mark20 _)).trans ((bifT (by (simp only [Bool.and_eq_true, decide_eq_true_eq, List.length_append, List.length_cons, List.length_nil, by5, Nat.mul_one, true_and, and_true] <;> omega))).trans ?_))))))
          · simp [by5]; omega
          · exact lawc N0 x k0 n _ (by rw [List.length_append]) (by rw [List.length_append]; rfl) rfl rfl
      · cases hb : v.snd.snd.fst
        · refine ⟨[0], by simp, ?_⟩
          conv => lhs; unfold law4o0
          refine (bifT c0).trans ((bifT c1).trans ((bindT hx).trans ((bifF k0e).trans ((bifF k1e).trans ((bifT k2e).trans ?_)))))
          refine (bifT c1).trans ((bindT hx).trans ((bifF hb).trans ((bifT (by (simp only [Bool.and_eq_true, decide_eq_true_eq, List.length_append, List.length_cons, List.length_nil, by5, Nat.mul_one, true_and, and_true] <;> omega))).trans ((bifT c1).trans ((bindT hx).trans ((bifF hb).trans ((bifT (by (simp only [Bool.and_eq_true, decide_eq_true_eq, List.length_append, List.length_cons, List.length_nil, by5, Nat.mul_one, true_and, and_true] <;> omega))).trans ?_)))))))
          exact lawc N0 x k0 n _ (by rw [List.length_append]; rfl) (by rw [List.length_append]; rfl) rfl rfl
        · refine ⟨[1], by simp, ?_⟩
          conv => lhs; unfold law4o0
          refine (bifT c0).trans ((bifT c1).trans ((bindT hx).trans ((bifF k0e).trans ((bifF k1e).trans ((bifT k2e).trans ?_)))))
          refine (bifT c1).trans ((bindT hx).trans ((bifT hb).trans ((bifT (by (simp only [Bool.and_eq_true, decide_eq_true_eq, List.length_append, List.length_cons, List.length_nil, by5, Nat.mul_one, true_and, and_true] <;> omega))).trans ((bifT c1).trans ((bindT hx).trans ((bifT hb).trans ((bifT (by (simp only [Bool.and_eq_true, decide_eq_true_eq, List.length_append, List.length_cons, List.length_nil, by5, Nat.mul_one, true_and, and_true] <;> omega))).trans ?_)))))))
          exact lawc N0 x k0 n _ (by rw [List.length_append]; rfl) (by rw [List.length_append]; rfl) rfl rfl
    · obtain ⟨w, hw⟩ : ∃ w, w = IntKind.u64.wrap v.snd.fst := ⟨_, rfl⟩
      have h0 : 0 ≤ w ∧ w < 18446744073709551616 := by rw [hw]; exact u64v _
      have h1 := r64 _ h0
      refine ⟨[IntKind.u8.wrap w, IntKind.u8.wrap (w.fdiv 256)], by simp, ?_⟩
      conv => lhs; unfold law4o0
      refine (bifT c0).trans ((bifT c1).trans ((bindT hx).trans ((bifF k0e).trans ((bifT k1e).trans ?_))))
      refine (bifT c1).trans ((bindT hx).trans ((bifT (by (simp only [Bool.and_eq_true, decide_eq_true_eq, List.length_append, List.length_cons, List.length_nil, by5, Nat.mul_one, true_and, and_true] <;> omega))).trans ((bifT (by (simp only [Bool.and_eq_true, decide_eq_true_eq, List.length_append, List.length_cons, List.length_nil, by5, Nat.mul_one, true_and, and_true] <;> omega))).trans ((bifT c1).trans ((bindT hx).trans ((bifT (by (simp only [Bool.and_eq_true, decide_eq_true_eq, List.length_append, List.length_cons, List.length_nil, by5, Nat.mul_one, true_and, and_true] <;> omega))).trans ?_))))))
      refine lawc N0 x k0 n _ (by rw [List.length_append]; rfl) (by rw [List.length_append]; rfl) ?_ ?_
      · rw [← hw, d64 _ h0, u8m _ h0.1, u8m _ h1.1]; rfl
      · rw [← hw, p8]; simp only [List.append_eq, List.append_assoc]; rfl
  · obtain ⟨w, hw⟩ : ∃ w, w = IntKind.u64.wrap v.snd.fst := ⟨_, rfl⟩
    have h0 : 0 ≤ w ∧ w < 18446744073709551616 := by rw [hw]; exact u64v _
    have h1 := r64 _ h0; have h2 := r64 _ h1; have h3 := r64 _ h2; have h4 := r64 _ h3
    have h5 := r64 _ h4; have h6 := r64 _ h5; have h7 := r64 _ h6
    refine ⟨[IntKind.u8.wrap w, IntKind.u8.wrap (w.fdiv 256), IntKind.u8.wrap ((w.fdiv 256).fdiv 256), IntKind.u8.wrap (((w.fdiv 256).fdiv 256).fdiv 256), IntKind.u8.wrap ((((w.fdiv 256).fdiv 256).fdiv 256).fdiv 256), IntKind.u8.wrap (((((w.fdiv 256).fdiv 256).fdiv 256).fdiv 256).fdiv 256), IntKind.u8.wrap ((((((w.fdiv 256).fdiv 256).fdiv 256).fdiv 256).fdiv 256).fdiv 256), IntKind.u8.wrap (((((((w.fdiv 256).fdiv 256).fdiv 256).fdiv 256).fdiv 256).fdiv 256).fdiv 256)], by simp, ?_⟩
    conv => lhs; unfold law4o0
    refine (bifT c0).trans ((bifT c1).trans ((bindT hx).trans ((bifT k0e).trans ?_)))
    refine (bifT c1).trans ((bindT hx).trans ((bifT (by (simp only [Bool.and_eq_true, decide_eq_true_eq, List.length_append, List.length_cons, List.length_nil, by5, Nat.mul_one, true_and, and_true] <;> omega))).trans ((bifT (by (simp only [Bool.and_eq_true, decide_eq_true_eq, List.length_append, List.length_cons, List.length_nil, by5, Nat.mul_one, true_and, and_true] <;> omega))).trans ((bifT (by (simp only [Bool.and_eq_true, decide_eq_true_eq, List.length_append, List.length_cons, List.length_nil, by5, Nat.mul_one, true_and, and_true] <;> omega))).trans ((bifT (by (simp only [Bool.and_eq_true, decide_eq_true_eq, List.length_append, List.length_cons, List.length_nil, by5, Nat.mul_one, true_and, and_true] <;> omega))).trans ((bifT (by (simp only [Bool.and_eq_true, decide_eq_true_eq, List.length_append, List.length_cons, List.length_nil, by5, Nat.mul_one, true_and, and_true] <;> omega))).trans ((bifT (by (simp only [Bool.and_eq_true, decide_eq_true_eq, List.length_append, List.length_cons, List.length_nil, by5, Nat.mul_one, true_and, and_true] <;> omega))).trans ((bifT (by (simp only [Bool.and_eq_true, decide_eq_true_eq, List.length_append, List.length_cons, List.length_nil, by5, Nat.mul_one, true_and, and_true] <;> omega))).trans ((bifT (by (simp only [Bool.and_eq_true, decide_eq_true_eq, List.length_append, List.length_cons, List.length_nil, by5, Nat.mul_one, true_and, and_true] <;> omega))).trans ((bifT c1).trans ((bindT hx).trans ((bifT (by (simp only [Bool.and_eq_true, decide_eq_true_eq, List.length_append, List.length_cons, List.length_nil, by5, Nat.mul_one, true_and, and_true] <;> omega))).trans ?_))))))))))))
    refine lawc N0 x k0 n _ (by rw [List.length_append]; rfl) (by rw [List.length_append]; rfl) ?_ ?_
    · rw [← hw]
      simp only [d64 _ h0, d64 _ h1, d64 _ h2, d64 _ h3, d64 _ h4, d64 _ h5, d64 _ h6]
      simp only [u8m _ h0.1, u8m _ h1.1, u8m _ h2.1, u8m _ h3.1, u8m _ h4.1, u8m _ h5.1, u8m _ h6.1, u8m _ h7.1]
      rfl
    · rw [← hw, p8]; simp only [List.append_eq, List.append_assoc]; rfl
theorem loop4 (N0 : Nat) (x : ((List OpT) × Unit)) (k0 : Nat → Nat → List Int → List Int → Option (Bool × Unit)) (hlen : x.fst.length ≤ 100) (hs : ∀ (j : Nat) (v : OpT), x.fst[j]? = some v → v.snd.snd.snd.fst.size ≤ 50) : ∀ (n j : Nat) (L : List Int), L.length ≤ 50 * j → j ≤ x.fst.length → x.fst.length - j < n →
    ∃ M : List Int, M.length ≤ 5000 ∧ law4o0 N0 x k0 n L.length j L.length L L = k0 M.length M.length M M
  | 0, j, L, _, _, h => by omega
  | n + 1, j, L, h1, h2, h3 => by
    by_cases hj : j < x.fst.length
    · obtain ⟨B, hB, he⟩ := round4 N0 x k0 n j _ (List.getElem?_eq_getElem hj) (hs j _ (List.getElem?_eq_getElem hj)) L (by omega)
      rw [wrapNat j (by omega)] at he
      obtain ⟨M, hM, hm⟩ := loop4 N0 x k0 hlen hs n (j + 1) (L ++ B) (by rw [List.length_append]; omega) (by omega) (by omega)
      exact ⟨M, hM, he.trans hm⟩
    · refine ⟨L, by omega, ?_⟩
      unfold law4o0
      exact bifF (by rw [decide_eq_false_iff_not]; omega)
theorem few13 (N0 : Nat) (x : ((List OpT) × Unit)) : ∀ (n j : Nat) (b : Bool), j ≤ 100 → (∀ (i : Nat) (v : OpT), i < j → x.fst[i]? = some v → v.snd.snd.snd.fst.size ≤ 50) → 100 - j < n → law13o0 N0 x (some (false, ())) (some (decide ((↑(List.length x.fst) : Int) ≤ 100), ())) n j = some (b, ()) → b = true → x.fst.length ≤ 100 ∧ ∀ (i : Nat) (v : OpT), x.fst[i]? = some v → v.snd.snd.snd.fst.size ≤ 50
  | 0, j, b, _, _, h, _, _ => by omega
  | n + 1, j, b, h1, h2, h3, h4, h5 => by
    unfold law13o0 at h4
    by_cases hj : j < x.fst.length
    · rw [bifT (by rw [decide_eq_true_eq]; omega)] at h4
      by_cases h100 : j < 100
      · rw [bifT (by rw [decide_eq_true_eq]; omega), bifT (by simp; omega), bindT (v := x.fst[j]) (by rw [Int.toNat_natCast, List.getElem?_eq_getElem hj])] at h4
        by_cases hz : x.fst[j].snd.snd.snd.fst.size > 50
        · rw [bifT (by rw [decide_eq_true_eq]; omega)] at h4
          injection h4 with h4; injection h4 with h4; rw [← h4] at h5; cases h5
        · rw [bifF (by rw [decide_eq_false_iff_not]; omega), wrapNat j (by omega)] at h4
          refine few13 N0 x n (j + 1) b (by omega) (fun i v hi hv => ?_) (by omega) h4 h5
          by_cases hij : i = j
          · subst hij
            rw [List.getElem?_eq_getElem hj] at hv; injection hv with hv; subst hv; omega
          · exact h2 i v (by omega) hv
      · rw [bifF (by rw [decide_eq_false_iff_not]; omega)] at h4
        injection h4 with h4; injection h4 with h4
        rw [← h4, decide_eq_true_eq] at h5
        refine ⟨by omega, fun i v hv => h2 i v ?_ hv⟩
        have := (List.getElem?_eq_some_iff.1 hv).1
        omega
    · rw [bifF (by rw [decide_eq_false_iff_not]; omega)] at h4
      injection h4 with h4; injection h4 with h4
      rw [← h4, decide_eq_true_eq] at h5
      refine ⟨by omega, fun i v hv => h2 i v ?_ hv⟩
      have := (List.getElem?_eq_some_iff.1 hv).1
      omega
theorem ends13 (N0 : Nat) (x : ((List OpT) × Unit)) : ∀ (n j : Nat), j ≤ 100 → 100 - j < n → ∃ b, law13o0 N0 x (some (false, ())) (some (decide ((↑(List.length x.fst) : Int) ≤ 100), ())) n j = some (b, ())
  | 0, j, _, h => by omega
  | n + 1, j, h1, h3 => by
    unfold law13o0
    by_cases hj : j < x.fst.length
    · rw [bifT (by rw [decide_eq_true_eq]; omega)]
      by_cases h100 : j < 100
      · rw [bifT (by rw [decide_eq_true_eq]; omega), bifT (by simp; omega), bindT (v := x.fst[j]) (by rw [Int.toNat_natCast, List.getElem?_eq_getElem hj])]
        by_cases hz : x.fst[j].snd.snd.snd.fst.size > 50
        · rw [bifT (by rw [decide_eq_true_eq]; omega)]; exact ⟨_, rfl⟩
        · rw [bifF (by rw [decide_eq_false_iff_not]; omega), wrapNat j (by omega)]
          exact ends13 N0 x n (j + 1) (by omega) (by omega)
      · rw [bifF (by rw [decide_eq_false_iff_not]; omega)]; exact ⟨_, rfl⟩
    · rw [bifF (by rw [decide_eq_false_iff_not]; omega)]; exact ⟨_, rfl⟩
theorem fewX (N0 : Nat) (h : 101 ≤ N0) (x : ((List OpT) × Unit)) : ∃ b, law13 N0 x = some (b, ()) ∧ (b = true → x.fst.length ≤ 100 ∧ ∀ (i : Nat) (v : OpT), x.fst[i]? = some v → v.snd.snd.snd.fst.size ≤ 50) := by
  obtain ⟨b, hb⟩ := ends13 N0 x N0 0 (by omega) (by omega)
  exact ⟨b, hb, fun ht => few13 N0 x N0 0 b (by omega) (fun i v hi => by omega) (by omega) hb ht⟩
theorem puts4 (N0 : Nat) (h : 101 ≤ N0) (x : ((List OpT) × Unit)) : law4 N0 x = some (true, ()) := by
  unfold law4
  obtain ⟨b, hb, hf⟩ := fewX (10 ^ 30) (by decide) x
  refine (bindT (v := (b, ())) hb).trans ?_
  cases b with
  | false => rfl
  | true =>
    obtain ⟨h1, h2⟩ := hf rfl
    simp only [Bool.not_true, cond_false]
    obtain ⟨M, hM, he⟩ := loop4 N0 x _ h1 h2 N0 0 [] (by simp) (by omega) (by omega)
    refine Eq.trans he ?_
    simp only [decide_true, cond_true]
    rw [bindT (cloneL M (by omega)), strE M M rfl]; rfl
theorem true4o (y : Sh.Ts [.sl OpSh]) (hy : Sh.oks [.sl OpSh] y) : fn4 y = some (true, ()) := puts4 (10 ^ 30) (by decide) y
end Go.Proofs.Ytnpmcpodpdimpaa
