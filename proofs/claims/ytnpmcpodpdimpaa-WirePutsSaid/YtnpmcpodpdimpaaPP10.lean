/- Plain Lean: what the laws of this program's functions come to, in numbers and lists; no program is run here. -/
import Derived.Test.YtnpmcpodpdimpaaPPl0
set_option linter.unusedVariables false
set_option linter.unusedSimpArgs false
set_option maxRecDepth 100000
namespace Go.Proofs.Ytnpmcpodpdimpaa
open Go Go.Ab Go.Proofs
/- WireOwn in plain Lean (r10). -/
theorem u64v (n : Int) : 0 ≤ IntKind.u64.wrap n ∧ IntKind.u64.wrap n < 18446744073709551616 := by
  have h : IntKind.u64.wrap n = n % 18446744073709551616 := by simp [IntKind.wrap, IntKind.signed, IntKind.bits]
  omega
theorem u64i (n : Int) (h0 : 0 ≤ n) (h1 : n < 18446744073709551616) : IntKind.u64.wrap n = n := by
  have h : IntKind.u64.wrap n = n % 18446744073709551616 := by simp [IntKind.wrap, IntKind.signed, IntKind.bits]
  omega
theorem u8m (n : Int) (h0 : 0 ≤ n) : IntKind.u8.wrap (n.tmod 256) = IntKind.u8.wrap n := by
  have h : ∀ n, IntKind.u8.wrap n = n % 256 := by intro n; simp [IntKind.wrap, IntKind.signed, IntKind.bits]
  rw [h, h, Int.tmod_eq_emod_of_nonneg h0]; omega
theorem d64 (n : Int) (h : 0 ≤ n ∧ n < 18446744073709551616) : IntKind.u64.wrap (n.tdiv 256) = n.fdiv 256 := by
  rw [Int.tdiv_eq_ediv_of_nonneg h.1, Int.fdiv_eq_ediv_of_nonneg n (by decide), u64i _ (by omega) (by omega)]
theorem r64 (n : Int) (h : 0 ≤ n ∧ n < 18446744073709551616) : 0 ≤ n.fdiv 256 ∧ n.fdiv 256 < 18446744073709551616 := by
  rw [Int.fdiv_eq_ediv_of_nonneg n (by decide)]; omega
theorem strE (A B : List Int) (h : A = B) : ((strB A).toList == (strB B).toList) = true := by subst h; exact beq_self_eq_true _
theorem p8 : (2 : Int) ^ min (Int.toNat 8) 64 = 256 := by decide
theorem by5 : Try.prog.types[5].bytes = 1 := by kernel_rfl
theorem clone27 (x : (List Int) × Unit) (h : x.fst.length ≤ 1000) : fn27 x = some x.fst := by
  unfold fn27 law27
  rw [by5, show (decide (0 = ([] : List Int).length) && (decide ((0 + List.length x.fst) * 1 ≤ 140737488355328) && decide (0 + List.length x.fst ≤ 9223372036854775807))) = true from by simp; omega]
  rw [cond_true, List.nil_append, Nat.zero_add, decide_eq_true rfl]
  rfl
theorem getB {β : Type} (b : List Int) (i : Nat) (f : Int → Option β) (h : i < b.length) : Option.bind b[i]? f = f b[i] := by
  rw [List.getElem?_eq_getElem h]; rfl
theorem lt8 (b : List Int) (i : Nat) (h : i < 8) (h8 : 8 ≤ b.length) : i < b.length := Nat.lt_of_lt_of_le h h8
theorem true3o (y : Sh.Ts [.int .i64, .sl (.int .u8)]) (hy : Sh.oks [.int .i64, .sl (.int .u8)] y) : fn3 y = some (true, ()) := by
  obtain ⟨n, b, ⟨⟩⟩ := y
  show fn3 (n, b, ()) = _
  unfold fn3 law3
  simp only
  by_cases hb : ((b.length : Nat) : Int) > 1000
  · rw [decide_eq_true hb]; rfl
  · rw [decide_eq_false hb, cond_false, by5, show (decide (0 = ([] : List Int).length) && (decide ((0 + List.length b) * 1 ≤ 140737488355328) && decide (0 + List.length b ≤ 9223372036854775807))) = true from by simp; omega, cond_true, clone27 (b, ()) (by simp only; omega), Option.bind_some]
    simp only [p8]
    obtain ⟨w, hw⟩ : ∃ w, w = IntKind.u64.wrap n := ⟨_, rfl⟩
    have h0 : 0 ≤ w ∧ w < 18446744073709551616 := by rw [hw]; exact u64v n
    rw [← hw]
    have h1 := r64 _ h0; have h2 := r64 _ h1; have h3 := r64 _ h2; have h4 := r64 _ h3
    have h5 := r64 _ h4; have h6 := r64 _ h5; have h7 := r64 _ h6
    simp only [d64 _ h0, d64 _ h1, d64 _ h2, d64 _ h3, d64 _ h4, d64 _ h5, d64 _ h6]
    simp only [u8m _ h0.1, u8m _ h1.1, u8m _ h2.1, u8m _ h3.1, u8m _ h4.1, u8m _ h5.1, u8m _ h6.1, u8m _ h7.1]
    simp only [List.append_eq, List.nil_append, List.cons_append, Nat.zero_add]
    rw [strE _ _ rfl, Bool.not_true, cond_false]
    simp only [decide_true, cond_true, strE b _ rfl]
    have hz : IntKind.i64.wrap ((b.length : Int) - 0) = b.length := by rw [IntKind.wrap_i64]; omega
    rw [hz]
    by_cases h8 : (8 : Int) > b.length
    · rw [decide_eq_true h8]; rfl
    · have h8' : 8 ≤ b.length := by omega
      have hk : (decide (0 ≤ 0) && (decide (0 ≤ IntKind.i64.wrap (0 + 8)) && (decide (IntKind.i64.wrap (0 + 8) ≤ IntKind.i64.wrap (0 + 8)) && decide (IntKind.i64.wrap (0 + 8) ≤ (b.length : Int))))) = true := by
        rw [show IntKind.i64.wrap (0 + 8) = 8 from by decide, decide_eq_true (show (8 : Int) ≤ b.length by omega)]; decide
      rw [decide_eq_false h8, cond_false, hk, cond_true]
      rw [getB, getB, getB, getB, getB, getB, getB, getB]
      all_goals exact lt8 b _ (by decide) h8'
end Go.Proofs.Ytnpmcpodpdimpaa
