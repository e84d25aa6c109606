/- Plain Lean: what the laws of this program's functions come to, in numbers and lists; no program is run here. -/
import Derived.Test.YtnpmcpodpdimpaaPPl0
set_option linter.unusedVariables false
set_option linter.unusedSimpArgs false
set_option maxRecDepth 100000
namespace Go.Proofs.Ytnpmcpodpdimpaa
open Go Go.Ab Go.Proofs
/- Bytes of words in plain Lean (r10). -/
theorem u64v (n : Int) : 0 ≤ IntKind.u64.wrap n ∧ IntKind.u64.wrap n < 18446744073709551616 := by
  have h : IntKind.u64.wrap n = n % 18446744073709551616 := by simp [IntKind.wrap, IntKind.signed, IntKind.bits]
  omega
theorem u64i (n : Int) (h0 : 0 ≤ n) (h1 : n < 18446744073709551616) : IntKind.u64.wrap n = n := by
  have h : IntKind.u64.wrap n = n % 18446744073709551616 := by simp [IntKind.wrap, IntKind.signed, IntKind.bits]
  omega
theorem u8m (n : Int) (h0 : 0 ≤ n) : IntKind.u8.wrap (n.tmod 256) = IntKind.u8.wrap n := by
  have h : ∀ n, IntKind.u8.wrap n = n % 256 := by intro n; simp [IntKind.wrap, IntKind.signed, IntKind.bits]
  rw [h, h, Int.tmod_eq_emod_of_nonneg h0]; omega
theorem d64 (n : Int) (h : 0 ≤ n ∧ n < 18446744073709551616) : IntKind.u64.wrap (n.tdiv 256) = n.fdiv 256 := by
  rw [Int.tdiv_eq_ediv_of_nonneg h.1, Int.fdiv_eq_ediv_of_nonneg n (by decide), u64i _ (by omega) (by omega)]
theorem r64 (n : Int) (h : 0 ≤ n ∧ n < 18446744073709551616) : 0 ≤ n.fdiv 256 ∧ n.fdiv 256 < 18446744073709551616 := by
  rw [Int.fdiv_eq_ediv_of_nonneg n (by decide)]; omega
theorem strE (A B : List Int) (h : A = B) : ((strB A).toList == (strB B).toList) = true := by subst h; exact beq_self_eq_true _
theorem p8 : (2 : Int) ^ min (Int.toNat 8) 64 = 256 := by decide
theorem by5 : Try.prog.types[5].bytes = 1 := by kernel_rfl
theorem clone27 (x : (List Int) × Unit) (h : x.fst.length ≤ 1000) : fn27 x = some x.fst := by
  unfold fn27 law27
  rw [by5, show (decide (0 = ([] : List Int).length) && (decide ((0 + List.length x.fst) * 1 ≤ 140737488355328) && decide (0 + List.length x.fst ≤ 9223372036854775807))) = true from by simp; omega]
  rw [cond_true, List.nil_append, Nat.zero_add, decide_eq_true rfl]
  rfl
theorem getB {β : Type} (b : List Int) (i : Nat) (f : Int → Option β) (h : i < b.length) : Option.bind b[i]? f = f b[i] := by
  rw [List.getElem?_eq_getElem h]; rfl
theorem lt8 (b : List Int) (i : Nat) (h : i < 8) (h8 : 8 ≤ b.length) : i < b.length := Nat.lt_of_lt_of_le h h8
end Go.Proofs.Ytnpmcpodpdimpaa
