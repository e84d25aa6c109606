/- The shapes of this program's types, as abbreviations; the program follows the order of evaluation that is mixed. -/
import Derived.Test.YtlpnlhokheohgaaCoree
import Derived.Test.YtlpnlhokheohgaaProg
set_option linter.unusedVariables false
set_option linter.unusedSimpArgs false
set_option maxRecDepth 100000
namespace Go.Proofs.Ytlpnlhokheohgaa
open Go Go.Ab Go.Proofs
abbrev boundsErrorSh : Sh := .st [.int .i64, .int .i64, .bool, .int .u8]
abbrev boundsErrorT : Type := (Int × Int × Bool × Int × Unit)
abbrev errorAddressStringSh : Sh := .st [.str, .int .u64]
abbrev errorAddressStringT : Type := (ByteArray × Int × Unit)
abbrev V3Sh : Sh := .st [.int .i64, .int .i64, .int .i64]
abbrev V3T : Type := (Int × Int × Int × Unit)
abbrev WheelSh : Sh := .st [V3Sh, .int .i64, .int .i64, .int .i64, .int .i64, .int .i64, .bool, .bool]
abbrev WheelT : Type := (V3T × Int × Int × Int × Int × Int × Bool × Bool × Unit)
abbrev DotSh : Sh := .st [.int .i64, .int .i64]
abbrev DotT : Type := (Int × Int × Unit)
abbrev PaneSh : Sh := .st [.sl (.int .i64), .sl (.int .i64), .rows (.int .i64)]
abbrev PaneT : Type := ((List Int) × (List Int) × (List (List Int)) × Unit)
abbrev CarSh : Sh := .st [.int .i64, V3Sh, .st [WheelSh, WheelSh, WheelSh, WheelSh], .st [.int .i64, .int .i64], .sl (DotSh), PaneSh, .sl (DotSh), .sl (DotSh), .int .i64, .int .i64, .int .i64, .int .i64, .int .i64, .int .i64, .int .i64, .int .i64, .sl (.int .i64), .int .i64, .int .i64, .int .i64, .int .i64, .int .i64, .int .i64, .int .u32, .int .u32, .int .i64, .int .i64, .int .i64, .int .i64, .int .i64, .int .i64, .int .i64]
abbrev CarT : Type := (Int × V3T × (WheelT × WheelT × WheelT × WheelT × Unit) × (Int × Int × Unit) × (List DotT) × PaneT × (List DotT) × (List DotT) × Int × Int × Int × Int × Int × Int × Int × Int × (List Int) × Int × Int × Int × Int × Int × Int × Int × Int × Int × Int × Int × Int × Int × Int × Int × Unit)
abbrev MSh : Sh := .st [.bool]
abbrev MT : Type := (Bool × Unit)
abbrev boundSh : Sh := .st [.int .i64, .int .i64, .int .i64]
abbrev boundT : Type := (Int × Int × Int × Unit)
abbrev IntSh : Sh := .st [.int .i64, .int .u64]
abbrev IntT : Type := (Int × Int × Unit)
abbrev sizeSh : Sh := .st [.int .u64, .int .u64]
abbrev sizeT : Type := (Int × Int × Unit)
abbrev PanicNilErrorSh : Sh := .st [.st []]
abbrev PanicNilErrorT : Type := ((Unit) × Unit)
theorem mixed : Try.prog.follows .mixedOrders = true := by kernel_rfl
end Go.Proofs.Ytlpnlhokheohgaa
