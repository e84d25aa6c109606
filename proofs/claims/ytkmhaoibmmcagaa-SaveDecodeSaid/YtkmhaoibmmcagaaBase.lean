/- The shapes of this program's types, as abbreviations; the program follows the order of evaluation that is mixed. -/
import Derived.Test.YtkmhaoibmmcagaaCoref
import Derived.Test.YtkmhaoibmmcagaaProg
set_option linter.unusedVariables false
set_option linter.unusedSimpArgs false
set_option maxRecDepth 100000
namespace Go.Proofs.Ytkmhaoibmmcagaa
open Go Go.Ab Go.Proofs
abbrev boundsErrorSh : Sh := .st [.int .i64, .int .i64, .bool, .int .u8]
abbrev boundsErrorT : Type := (Int × Int × Bool × Int × Unit)
abbrev errorAddressStringSh : Sh := .st [.str, .int .u64]
abbrev errorAddressStringT : Type := (ByteArray × Int × Unit)
abbrev V3Sh : Sh := .st [.int .i64, .int .i64, .int .i64]
abbrev V3T : Type := (Int × Int × Int × Unit)
abbrev QuatSh : Sh := .st [.int .i64, .int .i64, .int .i64, .int .i64]
abbrev QuatT : Type := (Int × Int × Int × Int × Unit)
abbrev BodySh : Sh := .st [V3Sh, V3Sh, QuatSh, V3Sh]
abbrev BodyT : Type := (V3T × V3T × QuatT × V3T × Unit)
abbrev DriveSh : Sh := .st [.int .i64, .bool, .int .i64, .int .i64, .int .u32]
abbrev DriveT : Type := (Int × Bool × Int × Int × Int × Unit)
abbrev SpinSh : Sh := .st [.int .i64, .int .i64, .bool]
abbrev SpinT : Type := (Int × Int × Bool × Unit)
abbrev LapSh : Sh := .st [.int .i64, .int .i64, .bool, .bool, .int .i64, .int .i64, .int .i64, .int .i64, .int .i64, .bool]
abbrev LapT : Type := (Int × Int × Bool × Bool × Int × Int × Int × Int × Int × Bool × Unit)
abbrev StateSh : Sh := .st [BodySh, .st [SpinSh, SpinSh, SpinSh, SpinSh], DriveSh, LapSh, .bool]
abbrev StateT : Type := (BodyT × (SpinT × SpinT × SpinT × SpinT × Unit) × DriveT × LapT × Bool × Unit)
abbrev InSh : Sh := .st [.sl (.int .u8), .int .i64, .int .i64, .int .i64, .int .i64]
abbrev InT : Type := ((List Int) × Int × Int × Int × Int × Unit)
abbrev OutSh : Sh := .st [.sl (.int .u8)]
abbrev OutT : Type := ((List Int) × Unit)
abbrev Inx1Sh : Sh := .st [.sl (.int .u8), .int .i64, .int .i64, .int .i64, .int .i64]
abbrev Inx1T : Type := ((List Int) × Int × Int × Int × Int × Unit)
abbrev PanicNilErrorSh : Sh := .st [.st []]
abbrev PanicNilErrorT : Type := ((Unit) × Unit)
theorem mixed : Try.prog.follows .mixedOrders = true := by kernel_rfl
end Go.Proofs.Ytkmhaoibmmcagaa
