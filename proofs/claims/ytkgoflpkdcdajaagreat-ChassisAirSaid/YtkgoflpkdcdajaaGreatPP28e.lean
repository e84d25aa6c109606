/- Plain Lean: what the laws of this program's functions come to, in numbers and lists; no program is run here. -/
import Derived.Test.YtkgoflpkdcdajaaGreatPP28h
set_option linter.unusedVariables false
set_option linter.unusedSimpArgs false
set_option maxRecDepth 100000
namespace Go.Proofs.YtkgoflpkdcdajaaGreat
open Go Go.Ab Go.Proofs Go.IntWalk
/- The document's Right in plain Lean (r17). -/
theorem and_chain (b c : Bool) : (bif b then some (c, ()) else some (false, ())) = (some (b && c, ()) : Option (Bool × Unit)) := by cases b <;> rfl
theorem not_chain (b : Bool) (X : Int) : (bif !b then some (40, ()) else some (X, ())) = (some (bif b then X else 40, ()) : Option (Int × Unit)) := by cases b <;> rfl
theorem bif_and (b c : Bool) (X Y : Int) : (bif b then (bif c then X else Y) else Y) = bif b && c then X else Y := by cases b <;> cases c <;> rfl
theorem le_chain (a b : Int) : (bif decide (a ≤ b) then some (41, ()) else some (0, ())) = (some (aboveR a b, ()) : Option (Int × Unit)) := by
  unfold aboveR; cases decide (a ≤ b) <;> rfl
theorem wr4 : IntKind.i64.wrap (4 * 4294967296) = 17179869184 := by decide
theorem wr16 : IntKind.i64.wrap (16 * 4294967296) = 68719476736 := by decide
theorem wr32 : IntKind.i64.wrap (32 * 4294967296) = 137438953472 := by decide
theorem wr64 : IntKind.i64.wrap (64 * 4294967296) = 274877906944 := by decide
theorem wr256 : IntKind.i64.wrap (256 * 4294967296) = 1099511627776 := by decide
theorem wr512 : IntKind.i64.wrap (512 * 4294967296) = 2199023255552 := by decide
theorem wr1024 : IntKind.i64.wrap (1024 * 4294967296) = 4398046511104 := by decide
theorem wr2048 : IntKind.i64.wrap (2048 * 4294967296) = 8796093022208 := by decide
theorem wr4096 : IntKind.i64.wrap (4096 * 4294967296) = 17592186044416 := by decide
theorem wr8192 : IntKind.i64.wrap (8192 * 4294967296) = 35184372088832 := by decide
theorem wr16384 : IntKind.i64.wrap (16384 * 4294967296) = 70368744177664 := by decide
theorem wr32768 : IntKind.i64.wrap (32768 * 4294967296) = 140737488355328 := by decide
theorem wr65536 : IntKind.i64.wrap (65536 * 4294967296) = 281474976710656 := by decide
theorem wr131072 : IntKind.i64.wrap (131072 * 4294967296) = 562949953421312 := by decide
theorem wr262144 : IntKind.i64.wrap (262144 * 4294967296) = 1125899906842624 := by decide
theorem wr1048576 : IntKind.i64.wrap (1048576 * 4294967296) = 4503599627370496 := by decide
theorem wr2 : IntKind.i64.wrap (2 * 4294967296) = 8589934592 := by decide
theorem wrn2 : IntKind.i64.wrap (-2 * 4294967296) = -8589934592 := by decide
theorem wrn4 : IntKind.i64.wrap (-4 * 4294967296) = -17179869184 := by decide
theorem wrn4096 : IntKind.i64.wrap (-4096 * 4294967296) = -17592186044416 := by decide
theorem wrn32768 : IntKind.i64.wrap (-32768 * 4294967296) = -140737488355328 := by decide
theorem far55 (a : Int) : (decide (a ≤ 4503599627370496) && decide (a ≥ IntKind.i64.wrap (0 - 4503599627370496))) = !farI a := by
  unfold farI
  rw [show IntKind.i64.wrap (0 - 4503599627370496) = -4503599627370496 by decide]
  by_cases h1 : a ≤ 4503599627370496 <;> by_cases h2 : a ≥ -4503599627370496 <;> simp [h1, h2] <;> omega
end Go.Proofs.YtkgoflpkdcdajaaGreat
