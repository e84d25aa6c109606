/- The shapes of this program's types, as abbreviations; the program follows the order of evaluation that is mixed. -/
import Derived.Test.YthlfckhjhagfaaaGreatCoref
import Derived.Test.YthlfckhjhagfaaaGreatProg
set_option linter.unusedVariables false
set_option linter.unusedSimpArgs false
set_option maxRecDepth 100000
namespace Go.Proofs.YthlfckhjhagfaaaGreat
open Go Go.Ab Go.Proofs
abbrev DotSh : Sh := .st [.int .i64, .int .i64]
abbrev DotT : Type := (Int × Int × Unit)
abbrev PaneSh : Sh := .st [.sl (.int .i64), .sl (.int .i64), .rows (.int .i64)]
abbrev PaneT : Type := ((List Int) × (List Int) × (List (List Int)) × Unit)
abbrev V3Sh : Sh := .st [.int .i64, .int .i64, .int .i64]
abbrev V3T : Type := (Int × Int × Int × Unit)
abbrev WheelSh : Sh := .st [V3Sh, .int .i64, .int .i64, .int .i64, .int .i64, .int .i64, .bool, .bool]
abbrev WheelT : Type := (V3T × Int × Int × Int × Int × Int × Bool × Bool × Unit)
abbrev CarSh : Sh := .st [.int .i64, V3Sh, .st [WheelSh, WheelSh, WheelSh, WheelSh], .st [.int .i64, .int .i64], .sl (DotSh), PaneSh, .sl (DotSh), .sl (DotSh), .int .i64, .int .i64, .int .i64, .int .i64, .int .i64, .int .i64, .int .i64, .int .i64, .sl (.int .i64), .int .i64, .int .i64, .int .i64, .int .i64, .int .i64, .int .i64, .int .u32, .int .u32, .int .i64, .int .i64, .int .i64, .int .i64, .int .i64, .int .i64, .int .i64]
abbrev CarT : Type := (Int × V3T × (WheelT × WheelT × WheelT × WheelT × Unit) × (Int × Int × Unit) × (List DotT) × PaneT × (List DotT) × (List DotT) × Int × Int × Int × Int × Int × Int × Int × Int × (List Int) × Int × Int × Int × Int × Int × Int × Int × Int × Int × Int × Int × Int × Int × Int × Int × Unit)
abbrev MSh : Sh := .st [.bool]
abbrev MT : Type := (Bool × Unit)
abbrev Mx1Sh : Sh := .st [.bool]
abbrev Mx1T : Type := (Bool × Unit)
abbrev IntSh : Sh := .st [.int .i64, .int .u64]
abbrev IntT : Type := (Int × Int × Unit)
abbrev sizeSh : Sh := .st [.int .u64, .int .u64]
abbrev sizeT : Type := (Int × Int × Unit)
abbrev NSh : Sh := .st [.bool, .st [.int .u64, .int .u64, .int .u64, .int .u64]]
abbrev NT : Type := (Bool × (Int × Int × Int × Int × Unit) × Unit)
theorem mixed : Tryz.prog.follows .mixedOrders = true := by kernel_rfl
abbrev vU (a : Int) : AV := AV.val (Value.int IntKind.u64 a)
abbrev vI (a : Int) : AV := AV.val (Value.int IntKind.i64 a)
abbrev vB (a : Bool) : AV := AV.val (Value.bool a)
abbrev eL (l : List AV) : Ent := Ent.live (Blk.mk (Cells.lit l) true none)
end Go.Proofs.YthlfckhjhagfaaaGreat
