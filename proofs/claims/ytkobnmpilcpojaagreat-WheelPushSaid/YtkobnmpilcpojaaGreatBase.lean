/- The shapes of this program's types, as abbreviations; the program follows the order of evaluation that is mixed. -/
import Derived.Test.YtkobnmpilcpojaaGreatCoref
import Derived.Test.YtkobnmpilcpojaaGreatProg
set_option linter.unusedVariables false
set_option linter.unusedSimpArgs false
set_option maxRecDepth 100000
namespace Go.Proofs.YtkobnmpilcpojaaGreat
open Go Go.Ab Go.Proofs
abbrev V3Sh : Sh := .st [.int .i64, .int .i64, .int .i64]
abbrev V3T : Type := (Int × Int × Int × Unit)
abbrev WheelSh : Sh := .st [V3Sh, .int .i64, .int .i64, .int .i64, .int .i64, .int .i64, .bool, .bool]
abbrev WheelT : Type := (V3T × Int × Int × Int × Int × Int × Bool × Bool × Unit)
abbrev DotSh : Sh := .st [.int .i64, .int .i64]
abbrev DotT : Type := (Int × Int × Unit)
abbrev PaneSh : Sh := .st [.sl (.int .i64), .sl (.int .i64), .rows (.int .i64)]
abbrev PaneT : Type := ((List Int) × (List Int) × (List (List Int)) × Unit)
abbrev CarSh : Sh := .st [.int .i64, V3Sh, .st [WheelSh, WheelSh, WheelSh, WheelSh], .st [.int .i64, .int .i64], .sl (DotSh), PaneSh, .sl (DotSh), .sl (DotSh), .int .i64, .int .i64, .int .i64, .int .i64, .int .i64, .int .i64, .int .i64, .int .i64, .sl (.int .i64), .int .i64, .int .i64, .int .i64, .int .i64, .int .i64, .int .i64, .int .u32, .int .u32, .int .i64, .int .i64, .int .i64, .int .i64, .int .i64, .int .i64, .int .i64]
abbrev CarT : Type := (Int × V3T × (WheelT × WheelT × WheelT × WheelT × Unit) × (Int × Int × Unit) × (List DotT) × PaneT × (List DotT) × (List DotT) × Int × Int × Int × Int × Int × Int × Int × Int × (List Int) × Int × Int × Int × Int × Int × Int × Int × Int × Int × Int × Int × Int × Int × Int × Int × Unit)
abbrev StandSh : Sh := .st [.bool, .int .i64, V3Sh, V3Sh, V3Sh, V3Sh, .int .i64, .int .i64, .int .i64]
abbrev StandT : Type := (Bool × Int × V3T × V3T × V3T × V3T × Int × Int × Int × Unit)
abbrev KindSh : Sh := .st [.int .i64, .int .i64, .bool]
abbrev KindT : Type := (Int × Int × Bool × Unit)
abbrev RestSh : Sh := .st [.int .i64, StandSh, KindSh, .int .i64, .int .i64]
abbrev RestT : Type := (Int × StandT × KindT × Int × Int × Unit)
abbrev MSh : Sh := .st [.bool]
abbrev MT : Type := (Bool × Unit)
abbrev Mx1Sh : Sh := .st [.bool]
abbrev Mx1T : Type := (Bool × Unit)
abbrev PushSh : Sh := .st [V3Sh, V3Sh]
abbrev PushT : Type := (V3T × V3T × Unit)
abbrev QuatSh : Sh := .st [.int .i64, .int .i64, .int .i64, .int .i64]
abbrev QuatT : Type := (Int × Int × Int × Int × Unit)
abbrev MatSh : Sh := .st [V3Sh, V3Sh, V3Sh]
abbrev MatT : Type := (V3T × V3T × V3T × Unit)
abbrev seatSh : Sh := .st [V3Sh, V3Sh, .int .i64]
abbrev seatT : Type := (V3T × V3T × Int × Unit)
abbrev IntSh : Sh := .st [.int .i64, .int .u64]
abbrev IntT : Type := (Int × Int × Unit)
abbrev sizeSh : Sh := .st [.int .u64, .int .u64]
abbrev sizeT : Type := (Int × Int × Unit)
abbrev arrowSh : Sh := .st [.int .i64, .int .i64]
abbrev arrowT : Type := (Int × Int × Unit)
abbrev NSh : Sh := .st [.bool, .st [.int .u64, .int .u64, .int .u64, .int .u64]]
abbrev NT : Type := (Bool × (Int × Int × Int × Int × Unit) × Unit)
theorem mixed : Tryz.prog.follows .mixedOrders = true := by kernel_rfl
abbrev vU (a : Int) : AV := AV.val (Value.int IntKind.u64 a)
abbrev vI (a : Int) : AV := AV.val (Value.int IntKind.i64 a)
abbrev vB (a : Bool) : AV := AV.val (Value.bool a)
abbrev eL (l : List AV) : Ent := Ent.live (Blk.mk (Cells.lit l) true none)
theorem aq {f : FuncId} {fn : Func} (hf : Tryz.prog.funcs[f]? = some fn) (env : Env Tryz.prog) (fuel : Nat) {s : Sh} {ss rs : List Sh} {g : s.T → Sh.Ts ss → Option (s.T × Sh.Ts rs)} (h : ∀ m x, codeLawM Tryz.prog env fuel [] fn (fn.body.getD .skip) s ss rs m x = g m x) (hb : fn.body = some (fn.body.getD .skip) := by kernel_rfl) (hn : (fn.name == "runtime.NumGoroutine") = false := by kernel_rfl) (hs : s.flat = true := by kernel_rfl) (hr : Sh.nes rs = 0 := by kernel_rfl) (hy : ∀ Γ, env.Y Γ := by exact fun _ => True.intro) : Acts Tryz.prog f s ss rs g := (Acts.of_code mixed hf hb hn env fuel Loops.fit_nil hs hr hy).to h
theorem rq {f : FuncId} {fn : Func} (hf : Tryz.prog.funcs[f]? = some fn) (env : Env Tryz.prog) (fuel : Nat) {ss rs : List Sh} {g : Sh.Ts ss → Option (Sh.Ts rs)} (h : ∀ x, codeLaw Tryz.prog env fuel [] fn (fn.body.getD .skip) ss rs x = g x) (hb : fn.body = some (fn.body.getD .skip) := by kernel_rfl) (hn : (fn.name == "runtime.NumGoroutine") = false := by kernel_rfl) (hr : Sh.nes rs = 0 := by kernel_rfl) (hy : ∀ Γ, env.Y Γ := by exact fun _ => True.intro) : Reads Tryz.prog f ss rs g := (Reads.of_code mixed hf hb hn env fuel Loops.fit_nil hr hy).to h
end Go.Proofs.YtkobnmpilcpojaaGreat
