/- The shapes of this program's types, as abbreviations; the program follows the order of evaluation that is mixed. -/
import Derived.Test.YtkamnpkcjokncaaCoree
import Derived.Test.YtkamnpkcjokncaaProg
set_option linter.unusedVariables false
set_option linter.unusedSimpArgs false
set_option maxRecDepth 100000
namespace Go.Proofs.Ytkamnpkcjokncaa
open Go Go.Ab Go.Proofs
abbrev boundsErrorSh : Sh := .st [.int .i64, .int .i64, .bool, .int .u8]
abbrev boundsErrorT : Type := (Int × Int × Bool × Int × Unit)
abbrev errorAddressStringSh : Sh := .st [.str, .int .u64]
abbrev errorAddressStringT : Type := (ByteArray × Int × Unit)
abbrev PaneSh : Sh := .st [.sl (.int .i64), .sl (.int .i64), .rows (.int .i64)]
abbrev PaneT : Type := ((List Int) × (List Int) × (List (List Int)) × Unit)
abbrev DotSh : Sh := .st [.int .i64, .int .i64]
abbrev DotT : Type := (Int × Int × Unit)
abbrev MSh : Sh := .st [.bool]
abbrev MT : Type := (Bool × Unit)
abbrev Mx1Sh : Sh := .st [.bool]
abbrev Mx1T : Type := (Bool × Unit)
abbrev IntSh : Sh := .st [.int .i64, .int .u64]
abbrev IntT : Type := (Int × Int × Unit)
abbrev sizeSh : Sh := .st [.int .u64, .int .u64]
abbrev sizeT : Type := (Int × Int × Unit)
abbrev PanicNilErrorSh : Sh := .st [.st []]
abbrev PanicNilErrorT : Type := ((Unit) × Unit)
abbrev ValueErrorSh : Sh := .st [.str, .int .u8]
abbrev ValueErrorT : Type := (ByteArray × Int × Unit)
theorem mixed : Try.prog.follows .mixedOrders = true := by kernel_rfl
end Go.Proofs.Ytkamnpkcjokncaa
