/-
  No cell of these rows narrows 'for every input' (looked for: loops, veiled, ifaces, maps, wideKeys, modest, calm, conditions, laid).
  DERIVED. THE GIVEN ROWS OF THIS SEAT. 6 by the template 'for every input the law returns true; each argument reads behind the call as it read before'; 0 by the template 'total and deterministic' (their statements: YtkgoflpkdcdajaaGreatTotals.lean).
  GIVEN WITH THE SEED: the statements are not yours to turn. If you find one false, say at which input.
  Laid BY PROGRAM, IN A SANDBOX (cutbox-rows.mjs): the forced cells as the released guide's own fill.sh prints them over the translation 11417bb77d02c721… (all of the seat's roots in one cut). By AI agents, Wed Nov 11 2026. No macro, syntax, notation, axiom, sorry.
-/
import Derived.Test.YtkgoflpkdcdajaaGreatChecked
import GoSem.Claim
import GoSem.ClaimJoined
import GoSem.ClaimMapViews
import Derived.JoinedTies
import Derived.KernelRfl
namespace Go.Proofs.YtkgoflpkdcdajaaGreat
/- THE CELL 'sum', in the pinned program and in every row, IS THE sha256 OF THE DUMP (.gsa) THAT YtkgoflpkdcdajaaGreatProg.lean LOADS. Nothing in Lean hashes anything: it is a label: what it is worth is what the hold of that sum in a sandbox is worth. -/
noncomputable def Tryz.pinned : Pinned := { name := "ytkgoflpkdcdajaagreat", sum := "11417bb77d02c721160db5fe7e70f123e4abe170f6bbbe8df55982809059d5b6", checked := Tryz.checked }
namespace Rows
def none {H : Type} : Left H := { results := [], args := [] }

/-- 'chicanelaw28.ChassisForce': WHATEVER THE INPUT: true; the input reads as it did. -/
def chassisForceSpec : ChangeSpec := { name := "chassisForce", fn := fun _ => fun
  | [d1, d2, d3] => { results := [.lit (.bool true)], args := [d1, d2, d3] }
  | _ => none }
def chassisForceRow : OpenClaim := { program := "ytkgoflpkdcdajaagreat", sum := "11417bb77d02c721160db5fe7e70f123e4abe170f6bbbe8df55982809059d5b6", func := "chicane/chicanelaw28.ChassisForce", spec := "chassisForce", inPlace := ["math/bits.Add64", "math/bits.Sub64", "internal/reflectlite.ValueOf", "(internal/reflectlite.Value).Len"], unfollowed := true, recurses := true, named := ["math/bits.divideError", "math/bits.overflowError"], apart := false }
def ChassisForceSaid : Prop := chassisForceRow.holds Tryz.pinned (OpenSpec.ofChange chassisForceSpec)

/-- ITS FALSE NEIGHBOUR: 'it returns false'. Refute it at one input. -/
def chassisForceWrong : ChangeSpec := { name := "chassisForce", fn := fun _ => fun
  | [d1, d2, d3] => { results := [.lit (.bool false)], args := [d1, d2, d3] }
  | _ => none }
def ChassisForceWrongFalsely : Prop := chassisForceRow.holds Tryz.pinned (OpenSpec.ofChange chassisForceWrong)

/-- 'chicanelaw28.ChassisStep': WHATEVER THE INPUT: true; the input reads as it did. -/
def chassisStepSpec : ChangeSpec := { name := "chassisStep", fn := fun _ => fun
  | [d1, d2, d3] => { results := [.lit (.bool true)], args := [d1, d2, d3] }
  | _ => none }
def chassisStepRow : OpenClaim := { program := "ytkgoflpkdcdajaagreat", sum := "11417bb77d02c721160db5fe7e70f123e4abe170f6bbbe8df55982809059d5b6", func := "chicane/chicanelaw28.ChassisStep", spec := "chassisStep", inPlace := ["math/bits.Sub64", "math/bits.Add64", "internal/reflectlite.ValueOf", "(internal/reflectlite.Value).Len"], unfollowed := true, recurses := true, named := ["math/bits.divideError", "math/bits.overflowError"], apart := false }
def ChassisStepSaid : Prop := chassisStepRow.holds Tryz.pinned (OpenSpec.ofChange chassisStepSpec)

/-- ITS FALSE NEIGHBOUR: 'it returns false'. Refute it at one input. -/
def chassisStepWrong : ChangeSpec := { name := "chassisStep", fn := fun _ => fun
  | [d1, d2, d3] => { results := [.lit (.bool false)], args := [d1, d2, d3] }
  | _ => none }
def ChassisStepWrongFalsely : Prop := chassisStepRow.holds Tryz.pinned (OpenSpec.ofChange chassisStepWrong)

/-- 'chicanelaw28.ChassisFits': WHATEVER THE INPUT: true; the input reads as it did. -/
def chassisFitsSpec : ChangeSpec := { name := "chassisFits", fn := fun _ => fun
  | [d1, d2, d3] => { results := [.lit (.bool true)], args := [d1, d2, d3] }
  | _ => none }
def chassisFitsRow : OpenClaim := { program := "ytkgoflpkdcdajaagreat", sum := "11417bb77d02c721160db5fe7e70f123e4abe170f6bbbe8df55982809059d5b6", func := "chicane/chicanelaw28.ChassisFits", spec := "chassisFits", inPlace := ["math/bits.Add64", "math/bits.Sub64", "internal/reflectlite.ValueOf", "(internal/reflectlite.Value).Len"], unfollowed := true, recurses := true, named := ["math/bits.divideError", "math/bits.overflowError"], apart := false }
def ChassisFitsSaid : Prop := chassisFitsRow.holds Tryz.pinned (OpenSpec.ofChange chassisFitsSpec)

/-- ITS FALSE NEIGHBOUR: 'it returns false'. Refute it at one input. -/
def chassisFitsWrong : ChangeSpec := { name := "chassisFits", fn := fun _ => fun
  | [d1, d2, d3] => { results := [.lit (.bool false)], args := [d1, d2, d3] }
  | _ => none }
def ChassisFitsWrongFalsely : Prop := chassisFitsRow.holds Tryz.pinned (OpenSpec.ofChange chassisFitsWrong)

/-- 'chicanelaw28.ChassisAir': WHATEVER THE INPUT: true; the input reads as it did. -/
def chassisAirSpec : ChangeSpec := { name := "chassisAir", fn := fun _ => fun
  | [d1, d2] => { results := [.lit (.bool true)], args := [d1, d2] }
  | _ => none }
def chassisAirRow : OpenClaim := { program := "ytkgoflpkdcdajaagreat", sum := "11417bb77d02c721160db5fe7e70f123e4abe170f6bbbe8df55982809059d5b6", func := "chicane/chicanelaw28.ChassisAir", spec := "chassisAir", inPlace := ["math/bits.Add64", "math/bits.Sub64", "internal/reflectlite.ValueOf", "(internal/reflectlite.Value).Len"], unfollowed := true, recurses := true, named := ["math/bits.divideError", "math/bits.overflowError"], apart := false }
def ChassisAirSaid : Prop := chassisAirRow.holds Tryz.pinned (OpenSpec.ofChange chassisAirSpec)

/-- ITS FALSE NEIGHBOUR: 'it returns false'. Refute it at one input. -/
def chassisAirWrong : ChangeSpec := { name := "chassisAir", fn := fun _ => fun
  | [d1, d2] => { results := [.lit (.bool false)], args := [d1, d2] }
  | _ => none }
def ChassisAirWrongFalsely : Prop := chassisAirRow.holds Tryz.pinned (OpenSpec.ofChange chassisAirWrong)

/-- 'chicanelaw28.ChassisFree': WHATEVER THE INPUT: true; the input reads as it did. -/
def chassisFreeSpec : ChangeSpec := { name := "chassisFree", fn := fun _ => fun
  | [d1, d2, d3] => { results := [.lit (.bool true)], args := [d1, d2, d3] }
  | _ => none }
def chassisFreeRow : OpenClaim := { program := "ytkgoflpkdcdajaagreat", sum := "11417bb77d02c721160db5fe7e70f123e4abe170f6bbbe8df55982809059d5b6", func := "chicane/chicanelaw28.ChassisFree", spec := "chassisFree", inPlace := ["math/bits.Add64", "math/bits.Sub64", "internal/reflectlite.ValueOf", "(internal/reflectlite.Value).Len"], unfollowed := true, recurses := true, named := ["math/bits.divideError", "math/bits.overflowError"], apart := false }
def ChassisFreeSaid : Prop := chassisFreeRow.holds Tryz.pinned (OpenSpec.ofChange chassisFreeSpec)

/-- ITS FALSE NEIGHBOUR: 'it returns false'. Refute it at one input. -/
def chassisFreeWrong : ChangeSpec := { name := "chassisFree", fn := fun _ => fun
  | [d1, d2, d3] => { results := [.lit (.bool false)], args := [d1, d2, d3] }
  | _ => none }
def ChassisFreeWrongFalsely : Prop := chassisFreeRow.holds Tryz.pinned (OpenSpec.ofChange chassisFreeWrong)

/-- 'chicanelaw28.ChassisMoves': WHATEVER THE INPUT: true; the input reads as it did. -/
def chassisMovesSpec : ChangeSpec := { name := "chassisMoves", fn := fun _ => fun
  | [d1, d2, d3] => { results := [.lit (.bool true)], args := [d1, d2, d3] }
  | _ => none }
def chassisMovesRow : OpenClaim := { program := "ytkgoflpkdcdajaagreat", sum := "11417bb77d02c721160db5fe7e70f123e4abe170f6bbbe8df55982809059d5b6", func := "chicane/chicanelaw28.ChassisMoves", spec := "chassisMoves", inPlace := ["math/bits.Add64", "math/bits.Sub64", "internal/reflectlite.ValueOf", "(internal/reflectlite.Value).Len"], unfollowed := true, recurses := true, named := ["math/bits.divideError", "math/bits.overflowError"], apart := false }
def ChassisMovesSaid : Prop := chassisMovesRow.holds Tryz.pinned (OpenSpec.ofChange chassisMovesSpec)

/-- ITS FALSE NEIGHBOUR: 'it returns false'. Refute it at one input. -/
def chassisMovesWrong : ChangeSpec := { name := "chassisMoves", fn := fun _ => fun
  | [d1, d2, d3] => { results := [.lit (.bool false)], args := [d1, d2, d3] }
  | _ => none }
def ChassisMovesWrongFalsely : Prop := chassisMovesRow.holds Tryz.pinned (OpenSpec.ofChange chassisMovesWrong)

/- THE SECOND FORM. 'bulk': how many values and letters a reading holds, each counted each time it is reached (what is shared counts as often as it is met; a slice's spare places count too). A statement '..UptoSaid' is the law's where the arguments, and the package variables that the reading takes, are together of bulk at most 1048576: NARROWER than '..Said'. Prove '..Said' where nothing that the law and all that it calls make is longer than what came in: it says more and counts as full. Else prove '..UptoSaid'. A law counts once. -/
mutual
def uptoBulk {H : Type} : DataW H → Nat
  | .lit (.string bytes) => bytes.length + 1
  | .lit _ => 1
  | .nil => 1
  | .ptr d => uptoBulk d + 1
  | .slice elems spare => uptoBulkAll elems + uptoBulkAll spare + 1
  | .agg parts => uptoBulkAll parts + 1
  | .iface _ d => uptoBulk d + 1
  | .map entries => uptoBulkEntries entries + 1
  | .held _ => 1
def uptoBulkAll {H : Type} : List (DataW H) → Nat
  | [] => 0
  | d :: r => uptoBulk d + uptoBulkAll r
def uptoBulkEntries {H : Type} : List (Lit × DataW H) → Nat
  | [] => 0
  | x :: r => uptoBulkEntry x + uptoBulkEntries r
def uptoBulkEntry {H : Type} : Lit × DataW H → Nat
  | (.string bytes, d) => bytes.length + uptoBulk d + 1
  | (_, d) => uptoBulk d + 1
 end
def uptoSmall : (H : Type) → List (DataW H) → Bool := fun _ ds => decide (uptoBulkAll ds ≤ 1048576)
def OpenSpec.upto (s : _root_.Go.ChangeSpec) : _root_.Go.OpenSpec := { _root_.Go.OpenSpec.ofChange s with cond := some uptoSmall }

/-- 'chicanelaw28.ChassisForce', WHERE WHAT IT READS IS OF BULK AT MOST 1048576: true; the input reads as it did. -/
def chassisForceUptoRow : OpenClaim := { program := "ytkgoflpkdcdajaagreat", sum := "11417bb77d02c721160db5fe7e70f123e4abe170f6bbbe8df55982809059d5b6", func := "chicane/chicanelaw28.ChassisForce", spec := "chassisForce", inPlace := ["math/bits.Add64", "math/bits.Sub64", "internal/reflectlite.ValueOf", "(internal/reflectlite.Value).Len"], unfollowed := true, recurses := true, named := ["math/bits.divideError", "math/bits.overflowError"], apart := false, narrowed := true }
def ChassisForceUptoSaid : Prop := chassisForceUptoRow.holds Tryz.pinned (OpenSpec.upto chassisForceSpec)

/-- 'chicanelaw28.ChassisStep', WHERE WHAT IT READS IS OF BULK AT MOST 1048576: true; the input reads as it did. -/
def chassisStepUptoRow : OpenClaim := { program := "ytkgoflpkdcdajaagreat", sum := "11417bb77d02c721160db5fe7e70f123e4abe170f6bbbe8df55982809059d5b6", func := "chicane/chicanelaw28.ChassisStep", spec := "chassisStep", inPlace := ["math/bits.Sub64", "math/bits.Add64", "internal/reflectlite.ValueOf", "(internal/reflectlite.Value).Len"], unfollowed := true, recurses := true, named := ["math/bits.divideError", "math/bits.overflowError"], apart := false, narrowed := true }
def ChassisStepUptoSaid : Prop := chassisStepUptoRow.holds Tryz.pinned (OpenSpec.upto chassisStepSpec)

/-- 'chicanelaw28.ChassisFits', WHERE WHAT IT READS IS OF BULK AT MOST 1048576: true; the input reads as it did. -/
def chassisFitsUptoRow : OpenClaim := { program := "ytkgoflpkdcdajaagreat", sum := "11417bb77d02c721160db5fe7e70f123e4abe170f6bbbe8df55982809059d5b6", func := "chicane/chicanelaw28.ChassisFits", spec := "chassisFits", inPlace := ["math/bits.Add64", "math/bits.Sub64", "internal/reflectlite.ValueOf", "(internal/reflectlite.Value).Len"], unfollowed := true, recurses := true, named := ["math/bits.divideError", "math/bits.overflowError"], apart := false, narrowed := true }
def ChassisFitsUptoSaid : Prop := chassisFitsUptoRow.holds Tryz.pinned (OpenSpec.upto chassisFitsSpec)

/-- 'chicanelaw28.ChassisAir', WHERE WHAT IT READS IS OF BULK AT MOST 1048576: true; the input reads as it did. -/
def chassisAirUptoRow : OpenClaim := { program := "ytkgoflpkdcdajaagreat", sum := "11417bb77d02c721160db5fe7e70f123e4abe170f6bbbe8df55982809059d5b6", func := "chicane/chicanelaw28.ChassisAir", spec := "chassisAir", inPlace := ["math/bits.Add64", "math/bits.Sub64", "internal/reflectlite.ValueOf", "(internal/reflectlite.Value).Len"], unfollowed := true, recurses := true, named := ["math/bits.divideError", "math/bits.overflowError"], apart := false, narrowed := true }
def ChassisAirUptoSaid : Prop := chassisAirUptoRow.holds Tryz.pinned (OpenSpec.upto chassisAirSpec)

/-- 'chicanelaw28.ChassisFree', WHERE WHAT IT READS IS OF BULK AT MOST 1048576: true; the input reads as it did. -/
def chassisFreeUptoRow : OpenClaim := { program := "ytkgoflpkdcdajaagreat", sum := "11417bb77d02c721160db5fe7e70f123e4abe170f6bbbe8df55982809059d5b6", func := "chicane/chicanelaw28.ChassisFree", spec := "chassisFree", inPlace := ["math/bits.Add64", "math/bits.Sub64", "internal/reflectlite.ValueOf", "(internal/reflectlite.Value).Len"], unfollowed := true, recurses := true, named := ["math/bits.divideError", "math/bits.overflowError"], apart := false, narrowed := true }
def ChassisFreeUptoSaid : Prop := chassisFreeUptoRow.holds Tryz.pinned (OpenSpec.upto chassisFreeSpec)

/-- 'chicanelaw28.ChassisMoves', WHERE WHAT IT READS IS OF BULK AT MOST 1048576: true; the input reads as it did. -/
def chassisMovesUptoRow : OpenClaim := { program := "ytkgoflpkdcdajaagreat", sum := "11417bb77d02c721160db5fe7e70f123e4abe170f6bbbe8df55982809059d5b6", func := "chicane/chicanelaw28.ChassisMoves", spec := "chassisMoves", inPlace := ["math/bits.Add64", "math/bits.Sub64", "internal/reflectlite.ValueOf", "(internal/reflectlite.Value).Len"], unfollowed := true, recurses := true, named := ["math/bits.divideError", "math/bits.overflowError"], apart := false, narrowed := true }
def ChassisMovesUptoSaid : Prop := chassisMovesUptoRow.holds Tryz.pinned (OpenSpec.upto chassisMovesSpec)

end Rows
end Go.Proofs.YtkgoflpkdcdajaaGreat
