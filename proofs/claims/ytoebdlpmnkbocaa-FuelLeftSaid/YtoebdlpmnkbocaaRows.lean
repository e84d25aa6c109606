/-
  No cell of these rows narrows 'for every input' (looked for: loops, veiled, ifaces, maps, wideKeys, modest, calm, conditions, laid).
  DERIVED. THE GIVEN ROWS OF THIS SEAT. 4 by the template 'for every input the law returns true; each argument reads behind the call as it read before'; 0 by the template 'total and deterministic' (their statements: YtoebdlpmnkbocaaTotals.lean).
  GIVEN WITH THE SEED: the statements are not yours to turn. If you find one false, say at which input.
  Laid BY PROGRAM, IN A SANDBOX (cutbox-rows.mjs): the forced cells as the released guide's own fill.sh prints them over the translation 6ab68571a9f15877… (all of the seat's roots in one cut). By AI agents, Wed Nov 11 2026. No macro, syntax, notation, axiom, sorry.
-/
import Derived.Test.YtoebdlpmnkbocaaChecked
import GoSem.Claim
import GoSem.ClaimJoined
import GoSem.ClaimMapViews
import Derived.JoinedTies
import Derived.KernelRfl
namespace Go.Proofs.Ytoebdlpmnkbocaa
/- THE CELL 'sum', in the pinned program and in every row, IS THE sha256 OF THE DUMP (.gsa) THAT YtoebdlpmnkbocaaProg.lean LOADS. Nothing in Lean hashes anything: it is a label: what it is worth is what the hold of that sum in a sandbox is worth. -/
noncomputable def Try.pinned : Pinned := { name := "ytoebdlpmnkbocaa", sum := "6ab68571a9f1587772e7e6cec65e365a9f4c9b405d4be3f3f6b81ae4939da3ca", checked := Try.checked }
namespace Rows
def none {H : Type} : Left H := { results := [], args := [] }

/-- 'chicanelaw45.FuelUse': WHATEVER THE INPUT: true; the input reads as it did. -/
def fuelUseSpec : ChangeSpec := { name := "fuelUse", fn := fun _ => fun
  | [d1, d2] => { results := [.lit (.bool true)], args := [d1, d2] }
  | _ => none }
def fuelUseRow : OpenClaim := { program := "ytoebdlpmnkbocaa", sum := "6ab68571a9f1587772e7e6cec65e365a9f4c9b405d4be3f3f6b81ae4939da3ca", func := "chicane/chicanelaw45.FuelUse", spec := "fuelUse", inPlace := ["internal/reflectlite.ValueOf", "(internal/reflectlite.Value).Len", "math/bits.Sub64", "math/bits.Add64"], unfollowed := true, recurses := true, named := ["math/bits.divideError", "math/bits.overflowError"], apart := false }
def FuelUseSaid : Prop := fuelUseRow.holds Try.pinned (OpenSpec.ofChange fuelUseSpec)

/-- ITS FALSE NEIGHBOUR: 'it returns false'. Refute it at one input. -/
def fuelUseWrong : ChangeSpec := { name := "fuelUse", fn := fun _ => fun
  | [d1, d2] => { results := [.lit (.bool false)], args := [d1, d2] }
  | _ => none }
def FuelUseWrongFalsely : Prop := fuelUseRow.holds Try.pinned (OpenSpec.ofChange fuelUseWrong)

/-- 'chicanelaw45.FuelLeft': WHATEVER THE INPUT: true; the input reads as it did. -/
def fuelLeftSpec : ChangeSpec := { name := "fuelLeft", fn := fun _ => fun
  | [d1, d2] => { results := [.lit (.bool true)], args := [d1, d2] }
  | _ => none }
def fuelLeftRow : OpenClaim := { program := "ytoebdlpmnkbocaa", sum := "6ab68571a9f1587772e7e6cec65e365a9f4c9b405d4be3f3f6b81ae4939da3ca", func := "chicane/chicanelaw45.FuelLeft", spec := "fuelLeft", inPlace := ["internal/reflectlite.ValueOf", "(internal/reflectlite.Value).Len", "math/bits.Sub64", "math/bits.Add64"], unfollowed := true, recurses := true, named := ["math/bits.divideError", "math/bits.overflowError"], apart := false }
def FuelLeftSaid : Prop := fuelLeftRow.holds Try.pinned (OpenSpec.ofChange fuelLeftSpec)

/-- ITS FALSE NEIGHBOUR: 'it returns false'. Refute it at one input. -/
def fuelLeftWrong : ChangeSpec := { name := "fuelLeft", fn := fun _ => fun
  | [d1, d2] => { results := [.lit (.bool false)], args := [d1, d2] }
  | _ => none }
def FuelLeftWrongFalsely : Prop := fuelLeftRow.holds Try.pinned (OpenSpec.ofChange fuelLeftWrong)

/-- 'chicanelaw45.FuelLasts': WHATEVER THE INPUT: true; the input reads as it did. -/
def fuelLastsSpec : ChangeSpec := { name := "fuelLasts", fn := fun _ => fun
  | [d1, d2, d3] => { results := [.lit (.bool true)], args := [d1, d2, d3] }
  | _ => none }
def fuelLastsRow : OpenClaim := { program := "ytoebdlpmnkbocaa", sum := "6ab68571a9f1587772e7e6cec65e365a9f4c9b405d4be3f3f6b81ae4939da3ca", func := "chicane/chicanelaw45.FuelLasts", spec := "fuelLasts", inPlace := ["internal/reflectlite.ValueOf", "(internal/reflectlite.Value).Len", "math/bits.Sub64", "math/bits.Add64"], unfollowed := true, recurses := true, named := ["math/bits.divideError", "math/bits.overflowError"], apart := false }
def FuelLastsSaid : Prop := fuelLastsRow.holds Try.pinned (OpenSpec.ofChange fuelLastsSpec)

/-- ITS FALSE NEIGHBOUR: 'it returns false'. Refute it at one input. -/
def fuelLastsWrong : ChangeSpec := { name := "fuelLasts", fn := fun _ => fun
  | [d1, d2, d3] => { results := [.lit (.bool false)], args := [d1, d2, d3] }
  | _ => none }
def FuelLastsWrongFalsely : Prop := fuelLastsRow.holds Try.pinned (OpenSpec.ofChange fuelLastsWrong)

/-- 'chicanelaw45.FuelFill': WHATEVER THE INPUT: true; the input reads as it did. -/
def fuelFillSpec : ChangeSpec := { name := "fuelFill", fn := fun _ => fun
  | [d1, d2] => { results := [.lit (.bool true)], args := [d1, d2] }
  | _ => none }
def fuelFillRow : OpenClaim := { program := "ytoebdlpmnkbocaa", sum := "6ab68571a9f1587772e7e6cec65e365a9f4c9b405d4be3f3f6b81ae4939da3ca", func := "chicane/chicanelaw45.FuelFill", spec := "fuelFill", inPlace := ["math/bits.Add64", "internal/reflectlite.ValueOf", "(internal/reflectlite.Value).Len", "math/bits.Sub64"], unfollowed := true, recurses := true, named := ["math/bits.divideError", "math/bits.overflowError"], apart := false }
def FuelFillSaid : Prop := fuelFillRow.holds Try.pinned (OpenSpec.ofChange fuelFillSpec)

/-- ITS FALSE NEIGHBOUR: 'it returns false'. Refute it at one input. -/
def fuelFillWrong : ChangeSpec := { name := "fuelFill", fn := fun _ => fun
  | [d1, d2] => { results := [.lit (.bool false)], args := [d1, d2] }
  | _ => none }
def FuelFillWrongFalsely : Prop := fuelFillRow.holds Try.pinned (OpenSpec.ofChange fuelFillWrong)

/- THE SECOND FORM. 'bulk': how many values and letters a reading holds, each counted each time it is reached (what is shared counts as often as it is met; a slice's spare places count too). A statement '..UptoSaid' is the law's where the arguments, and the package variables that the reading takes, are together of bulk at most 1048576: NARROWER than '..Said'. Prove '..Said' where nothing that the law and all that it calls make is longer than what came in: it says more and counts as full. Else prove '..UptoSaid'. A law counts once. -/
mutual
def uptoBulk {H : Type} : DataW H → Nat
  | .lit (.string bytes) => bytes.length + 1
  | .lit _ => 1
  | .nil => 1
  | .ptr d => uptoBulk d + 1
  | .slice elems spare => uptoBulkAll elems + uptoBulkAll spare + 1
  | .agg parts => uptoBulkAll parts + 1
  | .iface _ d => uptoBulk d + 1
  | .map entries => uptoBulkEntries entries + 1
  | .held _ => 1
def uptoBulkAll {H : Type} : List (DataW H) → Nat
  | [] => 0
  | d :: r => uptoBulk d + uptoBulkAll r
def uptoBulkEntries {H : Type} : List (Lit × DataW H) → Nat
  | [] => 0
  | x :: r => uptoBulkEntry x + uptoBulkEntries r
def uptoBulkEntry {H : Type} : Lit × DataW H → Nat
  | (.string bytes, d) => bytes.length + uptoBulk d + 1
  | (_, d) => uptoBulk d + 1
 end
def uptoSmall : (H : Type) → List (DataW H) → Bool := fun _ ds => decide (uptoBulkAll ds ≤ 1048576)
def OpenSpec.upto (s : _root_.Go.ChangeSpec) : _root_.Go.OpenSpec := { _root_.Go.OpenSpec.ofChange s with cond := some uptoSmall }

/-- 'chicanelaw45.FuelUse', WHERE WHAT IT READS IS OF BULK AT MOST 1048576: true; the input reads as it did. -/
def fuelUseUptoRow : OpenClaim := { program := "ytoebdlpmnkbocaa", sum := "6ab68571a9f1587772e7e6cec65e365a9f4c9b405d4be3f3f6b81ae4939da3ca", func := "chicane/chicanelaw45.FuelUse", spec := "fuelUse", inPlace := ["internal/reflectlite.ValueOf", "(internal/reflectlite.Value).Len", "math/bits.Sub64", "math/bits.Add64"], unfollowed := true, recurses := true, named := ["math/bits.divideError", "math/bits.overflowError"], apart := false, narrowed := true }
def FuelUseUptoSaid : Prop := fuelUseUptoRow.holds Try.pinned (OpenSpec.upto fuelUseSpec)

/-- 'chicanelaw45.FuelLeft', WHERE WHAT IT READS IS OF BULK AT MOST 1048576: true; the input reads as it did. -/
def fuelLeftUptoRow : OpenClaim := { program := "ytoebdlpmnkbocaa", sum := "6ab68571a9f1587772e7e6cec65e365a9f4c9b405d4be3f3f6b81ae4939da3ca", func := "chicane/chicanelaw45.FuelLeft", spec := "fuelLeft", inPlace := ["internal/reflectlite.ValueOf", "(internal/reflectlite.Value).Len", "math/bits.Sub64", "math/bits.Add64"], unfollowed := true, recurses := true, named := ["math/bits.divideError", "math/bits.overflowError"], apart := false, narrowed := true }
def FuelLeftUptoSaid : Prop := fuelLeftUptoRow.holds Try.pinned (OpenSpec.upto fuelLeftSpec)

/-- 'chicanelaw45.FuelLasts', WHERE WHAT IT READS IS OF BULK AT MOST 1048576: true; the input reads as it did. -/
def fuelLastsUptoRow : OpenClaim := { program := "ytoebdlpmnkbocaa", sum := "6ab68571a9f1587772e7e6cec65e365a9f4c9b405d4be3f3f6b81ae4939da3ca", func := "chicane/chicanelaw45.FuelLasts", spec := "fuelLasts", inPlace := ["internal/reflectlite.ValueOf", "(internal/reflectlite.Value).Len", "math/bits.Sub64", "math/bits.Add64"], unfollowed := true, recurses := true, named := ["math/bits.divideError", "math/bits.overflowError"], apart := false, narrowed := true }
def FuelLastsUptoSaid : Prop := fuelLastsUptoRow.holds Try.pinned (OpenSpec.upto fuelLastsSpec)

/-- 'chicanelaw45.FuelFill', WHERE WHAT IT READS IS OF BULK AT MOST 1048576: true; the input reads as it did. -/
def fuelFillUptoRow : OpenClaim := { program := "ytoebdlpmnkbocaa", sum := "6ab68571a9f1587772e7e6cec65e365a9f4c9b405d4be3f3f6b81ae4939da3ca", func := "chicane/chicanelaw45.FuelFill", spec := "fuelFill", inPlace := ["math/bits.Add64", "internal/reflectlite.ValueOf", "(internal/reflectlite.Value).Len", "math/bits.Sub64"], unfollowed := true, recurses := true, named := ["math/bits.divideError", "math/bits.overflowError"], apart := false, narrowed := true }
def FuelFillUptoSaid : Prop := fuelFillUptoRow.holds Try.pinned (OpenSpec.upto fuelFillSpec)

end Rows
end Go.Proofs.Ytoebdlpmnkbocaa
