/-
  No cell of these rows narrows 'for every input' (looked for: loops, veiled, ifaces, maps, wideKeys, modest, calm, conditions, laid).
  DERIVED. THE GIVEN ROWS OF THIS SEAT. 3 by the template 'for every input the law returns true; each argument reads behind the call as it read before'; 0 by the template 'total and deterministic' (their statements: YtkobnmpilcpojaaGreatTotals.lean).
  GIVEN WITH THE SEED: the statements are not yours to turn. If you find one false, say at which input.
  Laid BY PROGRAM, IN A SANDBOX (cutbox-rows.mjs): the forced cells as the released guide's own fill.sh prints them over the translation a408496c3c3e4acb… (all of the seat's roots in one cut). By AI agents, Wed Nov 11 2026. No macro, syntax, notation, axiom, sorry.
-/
import Derived.Test.YtkobnmpilcpojaaGreatChecked
import GoSem.Claim
import GoSem.ClaimJoined
import GoSem.ClaimMapViews
import Derived.JoinedTies
import Derived.KernelRfl
namespace Go.Proofs.YtkobnmpilcpojaaGreat
/- THE CELL 'sum', in the pinned program and in every row, IS THE sha256 OF THE DUMP (.gsa) THAT YtkobnmpilcpojaaGreatProg.lean LOADS. Nothing in Lean hashes anything: it is a label: what it is worth is what the hold of that sum in a sandbox is worth. -/
noncomputable def Tryz.pinned : Pinned := { name := "ytkobnmpilcpojaagreat", sum := "a408496c3c3e4acb0c8d5271755cf769408b7f5b95b3f133fd4f181e8137bc92", checked := Tryz.checked }
namespace Rows
def none {H : Type} : Left H := { results := [], args := [] }

/-- 'chicanelaw27.WheelPush': WHATEVER THE INPUT: true; the input reads as it did. -/
def wheelPushSpec : ChangeSpec := { name := "wheelPush", fn := fun _ => fun
  | [d1, d2] => { results := [.lit (.bool true)], args := [d1, d2] }
  | _ => none }
def wheelPushRow : OpenClaim := { program := "ytkobnmpilcpojaagreat", sum := "a408496c3c3e4acb0c8d5271755cf769408b7f5b95b3f133fd4f181e8137bc92", func := "chicane/chicanelaw27.WheelPush", spec := "wheelPush", inPlace := ["math/bits.Add64", "math/bits.Sub64", "internal/reflectlite.ValueOf", "(internal/reflectlite.Value).Len"], unfollowed := true, recurses := true, named := ["math/bits.divideError", "math/bits.overflowError"], apart := false }
def WheelPushSaid : Prop := wheelPushRow.holds Tryz.pinned (OpenSpec.ofChange wheelPushSpec)

/-- ITS FALSE NEIGHBOUR: 'it returns false'. Refute it at one input. -/
def wheelPushWrong : ChangeSpec := { name := "wheelPush", fn := fun _ => fun
  | [d1, d2] => { results := [.lit (.bool false)], args := [d1, d2] }
  | _ => none }
def WheelPushWrongFalsely : Prop := wheelPushRow.holds Tryz.pinned (OpenSpec.ofChange wheelPushWrong)

/-- 'chicanelaw27.WheelFits': WHATEVER THE INPUT: true; the input reads as it did. -/
def wheelFitsSpec : ChangeSpec := { name := "wheelFits", fn := fun _ => fun
  | [d1, d2, d3] => { results := [.lit (.bool true)], args := [d1, d2, d3] }
  | _ => none }
def wheelFitsRow : OpenClaim := { program := "ytkobnmpilcpojaagreat", sum := "a408496c3c3e4acb0c8d5271755cf769408b7f5b95b3f133fd4f181e8137bc92", func := "chicane/chicanelaw27.WheelFits", spec := "wheelFits", inPlace := ["math/bits.Add64", "math/bits.Sub64", "internal/reflectlite.ValueOf", "(internal/reflectlite.Value).Len"], unfollowed := true, recurses := true, named := ["math/bits.divideError", "math/bits.overflowError"], apart := false }
def WheelFitsSaid : Prop := wheelFitsRow.holds Tryz.pinned (OpenSpec.ofChange wheelFitsSpec)

/-- ITS FALSE NEIGHBOUR: 'it returns false'. Refute it at one input. -/
def wheelFitsWrong : ChangeSpec := { name := "wheelFits", fn := fun _ => fun
  | [d1, d2, d3] => { results := [.lit (.bool false)], args := [d1, d2, d3] }
  | _ => none }
def WheelFitsWrongFalsely : Prop := wheelFitsRow.holds Tryz.pinned (OpenSpec.ofChange wheelFitsWrong)

/-- 'chicanelaw27.WheelStands': WHATEVER THE INPUT: true; the input reads as it did. -/
def wheelStandsSpec : ChangeSpec := { name := "wheelStands", fn := fun _ => fun
  | [d1, d2, d3] => { results := [.lit (.bool true)], args := [d1, d2, d3] }
  | _ => none }
def wheelStandsRow : OpenClaim := { program := "ytkobnmpilcpojaagreat", sum := "a408496c3c3e4acb0c8d5271755cf769408b7f5b95b3f133fd4f181e8137bc92", func := "chicane/chicanelaw27.WheelStands", spec := "wheelStands", inPlace := ["math/bits.Add64", "math/bits.Sub64", "internal/reflectlite.ValueOf", "(internal/reflectlite.Value).Len"], unfollowed := true, recurses := true, named := ["math/bits.divideError", "math/bits.overflowError"], apart := false }
def WheelStandsSaid : Prop := wheelStandsRow.holds Tryz.pinned (OpenSpec.ofChange wheelStandsSpec)

/-- ITS FALSE NEIGHBOUR: 'it returns false'. Refute it at one input. -/
def wheelStandsWrong : ChangeSpec := { name := "wheelStands", fn := fun _ => fun
  | [d1, d2, d3] => { results := [.lit (.bool false)], args := [d1, d2, d3] }
  | _ => none }
def WheelStandsWrongFalsely : Prop := wheelStandsRow.holds Tryz.pinned (OpenSpec.ofChange wheelStandsWrong)

/- THE SECOND FORM. 'bulk': how many values and letters a reading holds, each counted each time it is reached (what is shared counts as often as it is met; a slice's spare places count too). A statement '..UptoSaid' is the law's where the arguments, and the package variables that the reading takes, are together of bulk at most 1048576: NARROWER than '..Said'. Prove '..Said' where nothing that the law and all that it calls make is longer than what came in: it says more and counts as full. Else prove '..UptoSaid'. A law counts once. -/
mutual
def uptoBulk {H : Type} : DataW H → Nat
  | .lit (.string bytes) => bytes.length + 1
  | .lit _ => 1
  | .nil => 1
  | .ptr d => uptoBulk d + 1
  | .slice elems spare => uptoBulkAll elems + uptoBulkAll spare + 1
  | .agg parts => uptoBulkAll parts + 1
  | .iface _ d => uptoBulk d + 1
  | .map entries => uptoBulkEntries entries + 1
  | .held _ => 1
def uptoBulkAll {H : Type} : List (DataW H) → Nat
  | [] => 0
  | d :: r => uptoBulk d + uptoBulkAll r
def uptoBulkEntries {H : Type} : List (Lit × DataW H) → Nat
  | [] => 0
  | x :: r => uptoBulkEntry x + uptoBulkEntries r
def uptoBulkEntry {H : Type} : Lit × DataW H → Nat
  | (.string bytes, d) => bytes.length + uptoBulk d + 1
  | (_, d) => uptoBulk d + 1
 end
def uptoSmall : (H : Type) → List (DataW H) → Bool := fun _ ds => decide (uptoBulkAll ds ≤ 1048576)
def OpenSpec.upto (s : _root_.Go.ChangeSpec) : _root_.Go.OpenSpec := { _root_.Go.OpenSpec.ofChange s with cond := some uptoSmall }

/-- 'chicanelaw27.WheelPush', WHERE WHAT IT READS IS OF BULK AT MOST 1048576: true; the input reads as it did. -/
def wheelPushUptoRow : OpenClaim := { program := "ytkobnmpilcpojaagreat", sum := "a408496c3c3e4acb0c8d5271755cf769408b7f5b95b3f133fd4f181e8137bc92", func := "chicane/chicanelaw27.WheelPush", spec := "wheelPush", inPlace := ["math/bits.Add64", "math/bits.Sub64", "internal/reflectlite.ValueOf", "(internal/reflectlite.Value).Len"], unfollowed := true, recurses := true, named := ["math/bits.divideError", "math/bits.overflowError"], apart := false, narrowed := true }
def WheelPushUptoSaid : Prop := wheelPushUptoRow.holds Tryz.pinned (OpenSpec.upto wheelPushSpec)

/-- 'chicanelaw27.WheelFits', WHERE WHAT IT READS IS OF BULK AT MOST 1048576: true; the input reads as it did. -/
def wheelFitsUptoRow : OpenClaim := { program := "ytkobnmpilcpojaagreat", sum := "a408496c3c3e4acb0c8d5271755cf769408b7f5b95b3f133fd4f181e8137bc92", func := "chicane/chicanelaw27.WheelFits", spec := "wheelFits", inPlace := ["math/bits.Add64", "math/bits.Sub64", "internal/reflectlite.ValueOf", "(internal/reflectlite.Value).Len"], unfollowed := true, recurses := true, named := ["math/bits.divideError", "math/bits.overflowError"], apart := false, narrowed := true }
def WheelFitsUptoSaid : Prop := wheelFitsUptoRow.holds Tryz.pinned (OpenSpec.upto wheelFitsSpec)

/-- 'chicanelaw27.WheelStands', WHERE WHAT IT READS IS OF BULK AT MOST 1048576: true; the input reads as it did. -/
def wheelStandsUptoRow : OpenClaim := { program := "ytkobnmpilcpojaagreat", sum := "a408496c3c3e4acb0c8d5271755cf769408b7f5b95b3f133fd4f181e8137bc92", func := "chicane/chicanelaw27.WheelStands", spec := "wheelStands", inPlace := ["math/bits.Add64", "math/bits.Sub64", "internal/reflectlite.ValueOf", "(internal/reflectlite.Value).Len"], unfollowed := true, recurses := true, named := ["math/bits.divideError", "math/bits.overflowError"], apart := false, narrowed := true }
def WheelStandsUptoSaid : Prop := wheelStandsUptoRow.holds Tryz.pinned (OpenSpec.upto wheelStandsSpec)

end Rows
end Go.Proofs.YtkobnmpilcpojaaGreat
