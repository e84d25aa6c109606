/- Plain Lean: what the laws of this program's functions come to, in numbers and lists; no program is run here. -/
import Derived.Test.YtkmhaoibmmcagaaPP33d
set_option linter.unusedVariables false
set_option linter.unusedSimpArgs false
set_option maxRecDepth 100000
namespace Go.Proofs.Ytkmhaoibmmcagaa
open Go Go.Ab Go.Proofs
/- The four statements about states as bytes, in plain Lean (r33). -/
/-! ### the sum -/
theorem sums (N0 N1 : Nat) (x : (List Int) × Unit) (k : Int → Option (Int × Unit)) : ∀ (n : Nat) (a i : Int), law9o0 N0 x k n a i = law10o0 N1 x k n a i
  | 0, a, i => by unfold law9o0 law10o0; rfl
  | n + 1, a, i => by
    unfold law9o0 law10o0
    congr 1
    congr 1
    congr 1
    funext v
    rw [sums N0 N1 x k n]
    congr 1
    generalize (↑(BitVec.ofInt 64 a ^^^ BitVec.ofInt 64 (IntKind.u64.wrap v)).toNat : Int) = X
    rw [show (2 : Int) ^ min (Int.toNat 40) 64 = 1099511627776 by decide]
    simp only [wu64]; omega
theorem sumT (N0 : Nat) (x : (List Int) × Unit) (k : Int → Option (Int × Unit)) (hl : x.fst.length ≤ 100000) : ∀ (n i : Nat) (a : Int), i ≤ x.fst.length → x.fst.length - i < n → ∃ v, law9o0 N0 x k n a i = k v
  | 0, i, a, _, h => by omega
  | n + 1, i, a, h1, h2 => by
    by_cases hi : i < x.fst.length
    · obtain ⟨v, hv⟩ := sumT N0 x k hl n (i + 1) (IntKind.u64.wrap (IntKind.u64.wrap (IntKind.u64.wrap (↑(BitVec.ofInt 64 a ^^^ BitVec.ofInt 64 (IntKind.u64.wrap x.fst[i])).toNat : Int) * 2 ^ min (Int.toNat 40) 64) + IntKind.u64.wrap (IntKind.u64.wrap (↑(BitVec.ofInt 64 a ^^^ BitVec.ofInt 64 (IntKind.u64.wrap x.fst[i])).toNat : Int) * 435))) (by omega) (by omega)
      refine ⟨v, ?_⟩
      unfold law9o0
      refine (bifT (by rw [decide_eq_true_eq]; omega)).trans ((bifT (by simp; omega)).trans ((bindT (v := x.fst[i]) (by rw [Int.toNat_natCast, List.getElem?_eq_getElem hi])).trans ?_))
      rw [wrapNat i (by omega)]
      exact hv
    · refine ⟨a, ?_⟩
      unfold law9o0
      exact bifF (by rw [decide_eq_false_iff_not]; omega)
theorem sum9 (l : List Int) (hl : l.length ≤ 100000) : ∃ v, fn9 (l, ()) = some (v, ()) ∧ fn10 (l, ()) = some (v, ()) := by
  obtain ⟨v, hv⟩ := sumT (10 ^ 30) (l, ()) (fun w => some (w, ())) hl (10 ^ 30) 0 14695981039346656037 (Nat.zero_le _) (Nat.lt_of_le_of_lt (Nat.le_trans (Nat.sub_le _ _) hl) (by decide))
  exact ⟨v, hv, (sums (10 ^ 30) (10 ^ 30) (l, ()) (fun w => some (w, ())) (10 ^ 30) 14695981039346656037 0).symm.trans hv⟩
/-! ### states and words -/
theorem tS4 : ([67, 72, 83, 84] : List Int).length = 4 := rfl
theorem enc_byt (s : StateT) : Byt (encS s) := by
  intro c hc
  simp only [encS, List.mem_append] at hc
  rcases hc with hc | hc
  · simp only [List.mem_cons, List.not_mem_nil, or_false] at hc; omega
  · exact encL_byt _ _ c hc
theorem enc_len (s : StateT) : (encS s).length ≤ 1000 := by
  have h := encL_len kS (unS s)
  have e : kS.length = 41 := rfl
  unfold encS
  rw [List.length_append, tS4]; omega
theorem okc {k : Kd} {K : List Kd} {W : List Int} (h : okL' (k :: K) W) : ∃ w W', W = w :: W' ∧ okW k w ∧ okL' K W' := by
  cases W with
  | nil => exact h.elim
  | cons w W => exact ⟨w, W, rfl, h⟩
def eqS (s t : StateT) : Bool := (s.fst.fst.fst == t.fst.fst.fst && (s.fst.fst.snd.fst == t.fst.fst.snd.fst && (s.fst.fst.snd.snd.fst == t.fst.fst.snd.snd.fst && true)) && (s.fst.snd.fst.fst == t.fst.snd.fst.fst && (s.fst.snd.fst.snd.fst == t.fst.snd.fst.snd.fst && (s.fst.snd.fst.snd.snd.fst == t.fst.snd.fst.snd.snd.fst && true)) && (s.fst.snd.snd.fst.fst == t.fst.snd.snd.fst.fst && (s.fst.snd.snd.fst.snd.fst == t.fst.snd.snd.fst.snd.fst && (s.fst.snd.snd.fst.snd.snd.fst == t.fst.snd.snd.fst.snd.snd.fst && (s.fst.snd.snd.fst.snd.snd.snd.fst == t.fst.snd.snd.fst.snd.snd.snd.fst && true))) && (s.fst.snd.snd.snd.fst.fst == t.fst.snd.snd.snd.fst.fst && (s.fst.snd.snd.snd.fst.snd.fst == t.fst.snd.snd.snd.fst.snd.fst && (s.fst.snd.snd.snd.fst.snd.snd.fst == t.fst.snd.snd.snd.fst.snd.snd.fst && true)) && true))) && (s.snd.fst.fst.fst == t.snd.fst.fst.fst && (s.snd.fst.fst.snd.fst == t.snd.fst.fst.snd.fst && (s.snd.fst.fst.snd.snd.fst == t.snd.fst.fst.snd.snd.fst && true)) && (s.snd.fst.snd.fst.fst == t.snd.fst.snd.fst.fst && (s.snd.fst.snd.fst.snd.fst == t.snd.fst.snd.fst.snd.fst && (s.snd.fst.snd.fst.snd.snd.fst == t.snd.fst.snd.fst.snd.snd.fst && true)) && (s.snd.fst.snd.snd.fst.fst == t.snd.fst.snd.snd.fst.fst && (s.snd.fst.snd.snd.fst.snd.fst == t.snd.fst.snd.snd.fst.snd.fst && (s.snd.fst.snd.snd.fst.snd.snd.fst == t.snd.fst.snd.snd.fst.snd.snd.fst && true)) && (s.snd.fst.snd.snd.snd.fst.fst == t.snd.fst.snd.snd.snd.fst.fst && (s.snd.fst.snd.snd.snd.fst.snd.fst == t.snd.fst.snd.snd.snd.fst.snd.fst && (s.snd.fst.snd.snd.snd.fst.snd.snd.fst == t.snd.fst.snd.snd.snd.fst.snd.snd.fst && true)) && true))) && (s.snd.snd.fst.fst == t.snd.snd.fst.fst && (s.snd.snd.fst.snd.fst == t.snd.snd.fst.snd.fst && (s.snd.snd.fst.snd.snd.fst == t.snd.snd.fst.snd.snd.fst && (s.snd.snd.fst.snd.snd.snd.fst == t.snd.snd.fst.snd.snd.snd.fst && (s.snd.snd.fst.snd.snd.snd.snd.fst == t.snd.snd.fst.snd.snd.snd.snd.fst && true)))) && (s.snd.snd.snd.fst.fst == t.snd.snd.snd.fst.fst && (s.snd.snd.snd.fst.snd.fst == t.snd.snd.snd.fst.snd.fst && (s.snd.snd.snd.fst.snd.snd.fst == t.snd.snd.snd.fst.snd.snd.fst && (s.snd.snd.snd.fst.snd.snd.snd.fst == t.snd.snd.snd.fst.snd.snd.snd.fst && (s.snd.snd.snd.fst.snd.snd.snd.snd.fst == t.snd.snd.snd.fst.snd.snd.snd.snd.fst && (s.snd.snd.snd.fst.snd.snd.snd.snd.snd.fst == t.snd.snd.snd.fst.snd.snd.snd.snd.snd.fst && (s.snd.snd.snd.fst.snd.snd.snd.snd.snd.snd.fst == t.snd.snd.snd.fst.snd.snd.snd.snd.snd.snd.fst && (s.snd.snd.snd.fst.snd.snd.snd.snd.snd.snd.snd.fst == t.snd.snd.snd.fst.snd.snd.snd.snd.snd.snd.snd.fst && (s.snd.snd.snd.fst.snd.snd.snd.snd.snd.snd.snd.snd.fst == t.snd.snd.snd.fst.snd.snd.snd.snd.snd.snd.snd.snd.fst && (s.snd.snd.snd.fst.snd.snd.snd.snd.snd.snd.snd.snd.snd.fst == t.snd.snd.snd.fst.snd.snd.snd.snd.snd.snd.snd.snd.snd.fst && true))))))))) && (s.snd.snd.snd.snd.fst == t.snd.snd.snd.snd.fst && true)))))
theorem eqS_eq (s t : StateT) (h : eqS s t = true) : s = t := by
  simp only [eqS, Bool.and_eq_true, beq_iff_eq, and_true] at h
  simp only [Prod.ext_iff, h, and_self]
theorem un_st (W : List Int) (h : okL' kS W) : unS (stS W) = W := by
  unfold kS at h
  obtain ⟨w0, W, rfl, h0, h⟩ := okc h
  obtain ⟨w1, W, rfl, h1, h⟩ := okc h
  obtain ⟨w2, W, rfl, h2, h⟩ := okc h
  obtain ⟨w3, W, rfl, h3, h⟩ := okc h
  obtain ⟨w4, W, rfl, h4, h⟩ := okc h
  obtain ⟨w5, W, rfl, h5, h⟩ := okc h
  obtain ⟨w6, W, rfl, h6, h⟩ := okc h
  obtain ⟨w7, W, rfl, h7, h⟩ := okc h
  obtain ⟨w8, W, rfl, h8, h⟩ := okc h
  obtain ⟨w9, W, rfl, h9, h⟩ := okc h
  obtain ⟨w10, W, rfl, h10, h⟩ := okc h
  obtain ⟨w11, W, rfl, h11, h⟩ := okc h
  obtain ⟨w12, W, rfl, h12, h⟩ := okc h
  obtain ⟨w13, W, rfl, h13, h⟩ := okc h
  obtain ⟨w14, W, rfl, h14, h⟩ := okc h
  obtain ⟨w15, W, rfl, h15, h⟩ := okc h
  obtain ⟨w16, W, rfl, h16, h⟩ := okc h
  obtain ⟨w17, W, rfl, h17, h⟩ := okc h
  obtain ⟨w18, W, rfl, h18, h⟩ := okc h
  obtain ⟨w19, W, rfl, h19, h⟩ := okc h
  obtain ⟨w20, W, rfl, h20, h⟩ := okc h
  obtain ⟨w21, W, rfl, h21, h⟩ := okc h
  obtain ⟨w22, W, rfl, h22, h⟩ := okc h
  obtain ⟨w23, W, rfl, h23, h⟩ := okc h
  obtain ⟨w24, W, rfl, h24, h⟩ := okc h
  obtain ⟨w25, W, rfl, h25, h⟩ := okc h
  obtain ⟨w26, W, rfl, h26, h⟩ := okc h
  obtain ⟨w27, W, rfl, h27, h⟩ := okc h
  obtain ⟨w28, W, rfl, h28, h⟩ := okc h
  obtain ⟨w29, W, rfl, h29, h⟩ := okc h
  obtain ⟨w30, W, rfl, h30, h⟩ := okc h
  obtain ⟨w31, W, rfl, h31, h⟩ := okc h
  obtain ⟨w32, W, rfl, h32, h⟩ := okc h
  obtain ⟨w33, W, rfl, h33, h⟩ := okc h
  obtain ⟨w34, W, rfl, h34, h⟩ := okc h
  obtain ⟨w35, W, rfl, h35, h⟩ := okc h
  obtain ⟨w36, W, rfl, h36, h⟩ := okc h
  obtain ⟨w37, W, rfl, h37, h⟩ := okc h
  obtain ⟨w38, W, rfl, h38, h⟩ := okc h
  obtain ⟨w39, W, rfl, h39, h⟩ := okc h
  obtain ⟨w40, W, rfl, h40, h⟩ := okc h
  cases W with
  | cons w W => exact h.elim
  | nil =>
    simp only [okW] at h15
    simp only [okW] at h18
    simp only [okW] at h21
    simp only [okW] at h24
    simp only [okW] at h26
    simp only [okW] at h29
    simp only [okW] at h32
    simp only [okW] at h33
    simp only [okW] at h39
    simp only [okW] at h40
    simp only [unS, stS, List.getD_cons_succ, List.getD_cons_zero]
    rw [show (bif w15 == 1 then (1 : Int) else 0) = w15 from by rcases h15 with rfl | rfl <;> rfl]
    rw [show (bif w18 == 1 then (1 : Int) else 0) = w18 from by rcases h18 with rfl | rfl <;> rfl]
    rw [show (bif w21 == 1 then (1 : Int) else 0) = w21 from by rcases h21 with rfl | rfl <;> rfl]
    rw [show (bif w24 == 1 then (1 : Int) else 0) = w24 from by rcases h24 with rfl | rfl <;> rfl]
    rw [show (bif w26 == 1 then (1 : Int) else 0) = w26 from by rcases h26 with rfl | rfl <;> rfl]
    rw [show IntKind.u32.wrap w29 = w29 from by rw [wu32]; omega]
    rw [show (bif w32 == 1 then (1 : Int) else 0) = w32 from by rcases h32 with rfl | rfl <;> rfl]
    rw [show (bif w33 == 1 then (1 : Int) else 0) = w33 from by rcases h33 with rfl | rfl <;> rfl]
    rw [show (bif w39 == 1 then (1 : Int) else 0) = w39 from by rcases h39 with rfl | rfl <;> rfl]
    rw [show (bif w40 == 1 then (1 : Int) else 0) = w40 from by rcases h40 with rfl | rfl <;> rfl]
theorem okf (b : Bool) : okW .f (bif b then 1 else 0) := by cases b <;> simp [okW]
theorem okt {w : Int} (h : Sh.ok (.int .u32) w) : okW .t w := by
  have h1 : 0 ≤ w := h.1
  have h2 : w ≤ 4294967295 := h.2
  exact ⟨h1, by omega⟩
theorem okUn (y : Sh.Ts [StateSh]) (hy : Sh.oks [StateSh] y) : okL' kS (unS y.1) :=
  ⟨hy.1.1.1.1, hy.1.1.1.2.1, hy.1.1.1.2.2.1, hy.1.1.2.1.1, hy.1.1.2.1.2.1, hy.1.1.2.1.2.2.1, hy.1.1.2.2.1.1, hy.1.1.2.2.1.2.1, hy.1.1.2.2.1.2.2.1, hy.1.1.2.2.1.2.2.2.1, hy.1.1.2.2.2.1.1, hy.1.1.2.2.2.1.2.1, hy.1.1.2.2.2.1.2.2.1, hy.1.2.1.1.1, hy.1.2.1.1.2.1, okf y.1.2.1.1.2.2.1, hy.1.2.1.2.1.1, hy.1.2.1.2.1.2.1, okf y.1.2.1.2.1.2.2.1, hy.1.2.1.2.2.1.1, hy.1.2.1.2.2.1.2.1, okf y.1.2.1.2.2.1.2.2.1, hy.1.2.1.2.2.2.1.1, hy.1.2.1.2.2.2.1.2.1, okf y.1.2.1.2.2.2.1.2.2.1, hy.1.2.2.1.1, okf y.1.2.2.1.2.1, hy.1.2.2.1.2.2.1, hy.1.2.2.1.2.2.2.1, okt hy.1.2.2.1.2.2.2.2.1, hy.1.2.2.2.1.1, hy.1.2.2.2.1.2.1, okf y.1.2.2.2.1.2.2.1, okf y.1.2.2.2.1.2.2.2.1, hy.1.2.2.2.1.2.2.2.2.1, hy.1.2.2.2.1.2.2.2.2.2.1, hy.1.2.2.2.1.2.2.2.2.2.2.1, hy.1.2.2.2.1.2.2.2.2.2.2.2.1, hy.1.2.2.2.1.2.2.2.2.2.2.2.2.1, okf y.1.2.2.2.1.2.2.2.2.2.2.2.2.2.1, okf y.1.2.2.2.2.1, trivial⟩
theorem st_un (y : Sh.Ts [StateSh]) (hy : Sh.oks [StateSh] y) : stS (unS y.1) = y.1 := by
  have h : okW .t y.1.2.2.1.2.2.2.2.1 := okt hy.1.2.2.1.2.2.2.2.1
  simp only [okW] at h
  have e : IntKind.u32.wrap y.1.2.2.1.2.2.2.2.1 = y.1.2.2.1.2.2.2.2.1 := by rw [wu32]; omega
  simp only [stS, unS, List.getD_cons_succ, List.getD_cons_zero, fl]
  rw [e]
theorem eqS_self (s : StateT) : eqS s s = true := by
  simp only [eqS, beq_self_eq_true, Bool.and_self]
theorem true6o (y : Sh.Ts [StateSh]) (hy : Sh.oks [StateSh] y) : fn6 y = some (true, ()) := by
  obtain ⟨v, h9, h10⟩ := sum9 (encS y.1) (by have := enc_len y.1; omega)
  show law6 y = _
  unfold law6
  refine (bindT (enc13 y)).trans ((bindT (enc12 y)).trans ((bifT (beq_self_eq_true _)).trans ?_))
  have h14 : fn14 y = some (v, ()) := by
    show law14 y = _
    unfold law14
    exact (bindT (enc12 y)).trans ((bindT h9).trans rfl)
  exact (bindT h14).trans ((bindT h10).trans (bifT (beq_self_eq_true _)))
theorem byL (y : List Int) (hy : Sh.ok (.sl (.int .u8)) y) : Byt y := fun c hc => by
  have h := hy.1 c hc
  have h1 : 0 ≤ c := h.1
  have h2 : c ≤ 255 := h.2
  exact ⟨h1, by omega⟩
theorem true3o (y : Sh.Ts [.sl (.int .u8)]) (hy : Sh.oks [.sl (.int .u8)] y) : fn3 y = some (true, ()) := by
  obtain ⟨l, u⟩ := y
  have hb := byL l hy.1
  show law3 (l, ()) = _
  unfold law3
  by_cases h5 : ((List.length l : Nat) : Int) > 5000
  · exact bifT (by rw [decide_eq_true_eq]; exact h5)
  · have hL : l.length ≤ 100000 := by omega
    refine (bifF (by rw [decide_eq_false_iff_not]; exact h5)).trans ((bifT (by simp [by5]; omega)).trans ((bifT (by simp)).trans ?_))
    refine (bindT (v := finS (readT [67, 72, 83, 84] kS l)) (dec7 hL hb)).trans ((bindT (v := finS (readT [67, 72, 83, 84] kS l)) (dec8 hL hb)).trans ?_)
    generalize finS (readT [67, 72, 83, 84] kS l) = r
    obtain ⟨s, e, a, u⟩ := r
    obtain ⟨v, h9, h10⟩ := sum9 l hL
    simp only [beq_self_eq_true, Bool.and_self, cond_true]
    exact (bindT h9).trans ((bindT h10).trans (bifT (beq_self_eq_true _)))
theorem true4o (y : Sh.Ts [StateSh]) (hy : Sh.oks [StateSh] y) : fn4 y = some (true, ()) := by
  have hl := enc_len y.1
  have h7 : fn7 (encS y.1, ()) = some (y.1, 0, 0, ()) := by
    rw [dec7 (by omega) (enc_byt y.1)]
    have hr : readT [67, 72, 83, 84] kS (encS y.1) = (0, 0, unS y.1) := readT_back tS4 (okUn y hy)
    rw [hr]
    show some (stS (unS y.1), 0, 0, ()) = _
    rw [st_un y hy]
  show law4 y = _
  unfold law4
  refine (bindT (enc12 y)).trans ((bindT h7).trans ?_)
  simp only [beq_self_eq_true, Bool.and_self, cond_true]
theorem xor1 (c : Int) (h : 0 ≤ c ∧ c < 256) : 0 ≤ IntKind.u8.wrap (↑(BitVec.ofInt 8 c ^^^ BitVec.ofInt 8 1).toNat : Int) ∧ IntKind.u8.wrap (↑(BitVec.ofInt 8 c ^^^ BitVec.ofInt 8 1).toNat : Int) < 256 ∧ IntKind.u8.wrap (↑(BitVec.ofInt 8 c ^^^ BitVec.ofInt 8 1).toNat : Int) ≠ c := by
  refine ⟨by rw [wu8]; omega, by rw [wu8]; omega, fun he => ?_⟩
  obtain ⟨n, rfl⟩ := Int.eq_ofNat_of_zero_le h.1
  have hn : n < 256 := by omega
  have key : ∀ m : Fin 256, IntKind.u8.wrap (↑(BitVec.ofInt 8 ((m.1 : Nat) : Int) ^^^ BitVec.ofInt 8 1).toNat : Int) ≠ ((m.1 : Nat) : Int) := by decide
  exact key ⟨n, hn⟩ he
theorem one5 {l : List Int} (hL : l.length ≤ 100000) (hb : Byt l) : (∃ e a : Int, e ≠ 0 ∧ 0 ≤ a ∧ a ≤ l.length ∧ fn7 (l, ()) = some (zeS, e, a, ())) ∨ ∃ s, fn7 (l, ()) = some (s, 0, 0, ()) ∧ encS s = l := by
  by_cases he : (readT [67, 72, 83, 84] kS l).1 = 0
  · right
    obtain ⟨h1, h2, h3⟩ := readT_only tS4 hb he
    refine ⟨stS (readT [67, 72, 83, 84] kS l).2.2, ?_, ?_⟩
    · rw [dec7 hL hb]
      unfold finS
      rw [he]
      rfl
    · unfold encS
      rw [un_st _ h1]
      exact h2.symm
  · left
    obtain ⟨h1, h2⟩ := readT_at [67, 72, 83, 84] kS l
    refine ⟨_, _, he, h1, h2, ?_⟩
    rw [dec7 hL hb]
    unfold finS
    rw [show ((readT [67, 72, 83, 84] kS l).1 != 0) = true from by simp [he]]
    rfl
theorem true5p (l : List Int) (at_ : Int) (hb : Byt l) : law5 (l, at_, ()) = some (true, ()) := by
  unfold law5
  by_cases h5 : ((List.length l : Nat) : Int) > 5000
  · exact bifT (by rw [decide_eq_true_eq]; exact h5)
  refine (bifF (by rw [decide_eq_false_iff_not]; exact h5)).trans ?_
  have hL : l.length ≤ 100000 := by omega
  rcases one5 hL hb with ⟨e, a, he, h1, h2, h7⟩ | ⟨s, h7, hs⟩
  · refine (bindT h7).trans ((bifT (by simp [he])).trans ((bifT (by rw [decide_eq_true_eq]; exact h1)).trans ((bifT (by rw [decide_eq_true_eq]; exact h2)).trans ?_)))
    rfl
  · have h12 : fn12 (s, ()) = some l := (enc12 (s, ())).trans (congrArg some hs)
    refine (bindT h7).trans ((bifF rfl).trans ((bindT h12).trans ((bifF (by rw [Bool.not_eq_false']; exact beq_self_eq_true _)).trans ?_)))
    by_cases ha : at_ < 0
    · exact (bifT (by rw [decide_eq_true_eq]; exact ha)).trans ((bindT h12).trans (bifT (beq_self_eq_true _)))
    refine (bifF (by rw [decide_eq_false_iff_not]; exact ha)).trans ?_
    by_cases hg : at_ ≥ ((List.length l : Nat) : Int)
    · exact (bifT (by rw [decide_eq_true_eq]; exact hg)).trans ((bindT h12).trans (bifT (beq_self_eq_true _)))
    refine (bifF (by rw [decide_eq_false_iff_not]; exact hg)).trans ?_
    have ha' : (0 : Int) ≤ at_ := Int.not_lt.mp ha
    have hg' : (at_ : Int) < ((List.length l : Nat) : Int) := Int.not_le.mp hg
    have hn : at_.toNat < l.length := by omega
    have hget : (([] : List Int).append l)[Int.toNat at_]? = some l[at_.toNat] := List.getElem?_eq_getElem hn
    have hrange : (decide (0 ≤ at_) && decide (at_ < ((0 + List.length l : Nat) : Int))) = true := by
      rw [Nat.zero_add, decide_eq_true ha', decide_eq_true hg']; rfl
    refine (bifT (by simp [by5]; omega)).trans ((bifT hrange).trans ((bindT hget).trans ((bifT hrange).trans ((bindT hget).trans ((bifT (by simp)).trans ?_)))))
    have hx := xor1 l[at_.toNat] (hb _ (List.getElem_mem hn))
    generalize hv : IntKind.u8.wrap (↑(BitVec.ofInt 8 l[at_.toNat] ^^^ BitVec.ofInt 8 1).toNat : Int) = v at hx ⊢
    have hc : (([] : List Int).append l).set (Int.toNat at_) v = l.set at_.toNat v := rfl
    rw [hc]
    have hbc : Byt (l.set at_.toNat v) := fun c hc => by
      rcases List.mem_or_eq_of_mem_set hc with h | h
      · exact hb c h
      · rw [h]; exact ⟨hx.1, hx.2.1⟩
    rcases one5 (l := l.set at_.toNat v) (by rw [List.length_set]; exact hL) hbc with ⟨e, a, he, h1, h2, h8⟩ | ⟨t, h8, ht⟩
    · exact (bindT h8).trans (bifT (by simp [he]))
    · refine (bindT h8).trans ((bifF rfl).trans (bifT ?_))
      rw [Bool.not_eq_true']
      cases hq : eqS t s
      · exact hq
      · exfalso
        have e := eqS_eq t s hq
        rw [e, hs] at ht
        have h3 : (l.set at_.toNat v)[at_.toNat]? = some v := by rw [List.getElem?_set_self hn]
        rw [← ht, List.getElem?_eq_getElem hn] at h3
        injection h3 with h3
        exact hx.2.2 h3.symm
theorem true5o (y : Sh.Ts [.sl (.int .u8), .int .i64]) (hy : Sh.oks [.sl (.int .u8), .int .i64] y) : fn5 y = some (true, ()) := true5p y.1 y.2.1 (byL y.1 hy.1)
end Go.Proofs.Ytkmhaoibmmcagaa
