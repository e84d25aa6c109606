/- The shapes of this program's types, as abbreviations; the program follows the order of evaluation that is mixed. -/
import Derived.Test.YtnpmcpodpdimpaaCoref
import Derived.Test.YtnpmcpodpdimpaaProg
set_option linter.unusedVariables false
set_option linter.unusedSimpArgs false
set_option maxRecDepth 100000
namespace Go.Proofs.Ytnpmcpodpdimpaa
open Go Go.Ab Go.Proofs
abbrev boundsErrorSh : Sh := .st [.int .i64, .int .i64, .bool, .int .u8]
abbrev boundsErrorT : Type := (Int × Int × Bool × Int × Unit)
abbrev errorAddressStringSh : Sh := .st [.str, .int .u64]
abbrev errorAddressStringT : Type := (ByteArray × Int × Unit)
abbrev OutSh : Sh := .st [.sl (.int .u8)]
abbrev OutT : Type := ((List Int) × Unit)
abbrev OpSh : Sh := .st [.int .i64, .int .i64, .bool, .str, .int .i64]
abbrev OpT : Type := (Int × Int × Bool × ByteArray × Int × Unit)
abbrev InSh : Sh := .st [.sl (.int .u8), .int .i64, .int .i64, .int .i64, .int .i64]
abbrev InT : Type := ((List Int) × Int × Int × Int × Int × Unit)
abbrev PanicNilErrorSh : Sh := .st [.st []]
abbrev PanicNilErrorT : Type := ((Unit) × Unit)
theorem mixed : Try.prog.follows .mixedOrders = true := by kernel_rfl
end Go.Proofs.Ytnpmcpodpdimpaa
