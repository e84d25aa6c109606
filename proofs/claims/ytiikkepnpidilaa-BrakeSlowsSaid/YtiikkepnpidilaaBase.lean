/- The shapes of this program's types, as abbreviations; the program follows the order of evaluation that is mixed. -/
import Derived.Test.YtiikkepnpidilaaCore24
import Derived.Test.YtiikkepnpidilaaCore32
import Derived.Test.YtiikkepnpidilaaProg
set_option linter.unusedVariables false
set_option linter.unusedSimpArgs false
set_option maxRecDepth 100000
namespace Go.Proofs.Ytiikkepnpidilaa
open Go Go.Ab Go.Proofs
abbrev boundsErrorSh : Sh := .st [.int .i64, .int .i64, .bool, .int .u8]
abbrev errorAddressStringSh : Sh := .st [.str, .int .u64]
abbrev MSh : Sh := .st [.bool]
abbrev V3Sh : Sh := .st [.int .i64, .int .i64, .int .i64]
abbrev WheelSh : Sh := .st [V3Sh, .int .i64, .int .i64, .int .i64, .int .i64, .int .i64, .bool, .bool]
abbrev DotSh : Sh := .st [.int .i64, .int .i64]
abbrev PaneSh : Sh := .st [.sl (.int .i64), .sl (.int .i64), .rows (.int .i64)]
abbrev CarSh : Sh := .st [.int .i64, V3Sh, .st [WheelSh, WheelSh, WheelSh, WheelSh], .st [.int .i64, .int .i64], .sl (DotSh), PaneSh, .sl (DotSh), .sl (DotSh), .int .i64, .int .i64, .int .i64, .int .i64, .int .i64, .int .i64, .int .i64, .int .i64, .sl (.int .i64), .int .i64, .int .i64, .int .i64, .int .i64, .int .i64, .int .i64, .int .u32, .int .u32, .int .i64, .int .i64, .int .i64, .int .i64, .int .i64, .int .i64, .int .i64]
abbrev Mx1Sh : Sh := .st [.bool]
abbrev IntSh : Sh := .st [.int .i64, .int .u64]
abbrev boundSh : Sh := .st [.int .i64, .int .i64, .int .i64]
abbrev sizeSh : Sh := .st [.int .u64, .int .u64]
abbrev PanicNilErrorSh : Sh := .st [.st []]
theorem mixed : Try.prog.follows .mixedOrders = true := by kernel_rfl
end Go.Proofs.Ytiikkepnpidilaa
