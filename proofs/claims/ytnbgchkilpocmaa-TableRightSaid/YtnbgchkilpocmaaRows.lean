/-
  No cell of these rows narrows 'for every input' (looked for: loops, veiled, ifaces, maps, wideKeys, modest, calm, conditions, laid).
  DERIVED. THE GIVEN ROWS OF THIS SEAT. 5 by the template 'for every input the law returns true; each argument reads behind the call as it read before'; 0 by the template 'total and deterministic' (their statements: YtnbgchkilpocmaaTotals.lean).
  GIVEN WITH THE SEED: the statements are not yours to turn. If you find one false, say at which input.
  Laid BY PROGRAM, IN A SANDBOX (cutbox-rows.mjs): the forced cells as the released guide's own fill.sh prints them over the translation 45c08d9653e2b871… (all of the seat's roots in one cut). By AI agents, Wed Nov 11 2026. No macro, syntax, notation, axiom, sorry.
-/
import Derived.Test.YtnbgchkilpocmaaChecked
import GoSem.Claim
import GoSem.ClaimJoined
import GoSem.ClaimMapViews
import Derived.JoinedTies
import Derived.KernelRfl
namespace Go.Proofs.Ytnbgchkilpocmaa
/- THE CELL 'sum', in the pinned program and in every row, IS THE sha256 OF THE DUMP (.gsa) THAT YtnbgchkilpocmaaProg.lean LOADS. Nothing in Lean hashes anything: it is a label: what it is worth is what the hold of that sum in a sandbox is worth. -/
noncomputable def Try.pinned : Pinned := { name := "ytnbgchkilpocmaa", sum := "45c08d9653e2b871757ac492cbf0787aa4e1b128ffcde572b0dc78fd0ddf32c8", checked := Try.checked }
namespace Rows
def none {H : Type} : Left H := { results := [], args := [] }

/-- 'chicanelaw08.TableEval': WHATEVER THE INPUT: true; the input reads as it did. -/
def tableEvalSpec : ChangeSpec := { name := "tableEval", fn := fun _ => fun
  | [d1, d2] => { results := [.lit (.bool true)], args := [d1, d2] }
  | _ => none }
def tableEvalRow : OpenClaim := { program := "ytnbgchkilpocmaa", sum := "45c08d9653e2b871757ac492cbf0787aa4e1b128ffcde572b0dc78fd0ddf32c8", func := "chicane/chicanelaw08.TableEval", spec := "tableEval", inPlace := ["internal/reflectlite.ValueOf", "(internal/reflectlite.Value).Len", "math/bits.Sub64", "math/bits.Add64"], unfollowed := true, recurses := true, named := ["math/bits.divideError", "math/bits.overflowError"], apart := false }
def TableEvalSaid : Prop := tableEvalRow.holds Try.pinned (OpenSpec.ofChange tableEvalSpec)

/-- ITS FALSE NEIGHBOUR: 'it returns false'. Refute it at one input. -/
def tableEvalWrong : ChangeSpec := { name := "tableEval", fn := fun _ => fun
  | [d1, d2] => { results := [.lit (.bool false)], args := [d1, d2] }
  | _ => none }
def TableEvalWrongFalsely : Prop := tableEvalRow.holds Try.pinned (OpenSpec.ofChange tableEvalWrong)

/-- 'chicanelaw08.TableRises': WHATEVER THE INPUT: true; the input reads as it did. -/
def tableRisesSpec : ChangeSpec := { name := "tableRises", fn := fun _ => fun
  | [d1, d2, d3] => { results := [.lit (.bool true)], args := [d1, d2, d3] }
  | _ => none }
def tableRisesRow : OpenClaim := { program := "ytnbgchkilpocmaa", sum := "45c08d9653e2b871757ac492cbf0787aa4e1b128ffcde572b0dc78fd0ddf32c8", func := "chicane/chicanelaw08.TableRises", spec := "tableRises", inPlace := ["internal/reflectlite.ValueOf", "(internal/reflectlite.Value).Len", "math/bits.Sub64", "math/bits.Add64"], unfollowed := true, recurses := true, named := ["math/bits.divideError", "math/bits.overflowError"], apart := false }
def TableRisesSaid : Prop := tableRisesRow.holds Try.pinned (OpenSpec.ofChange tableRisesSpec)

/-- ITS FALSE NEIGHBOUR: 'it returns false'. Refute it at one input. -/
def tableRisesWrong : ChangeSpec := { name := "tableRises", fn := fun _ => fun
  | [d1, d2, d3] => { results := [.lit (.bool false)], args := [d1, d2, d3] }
  | _ => none }
def TableRisesWrongFalsely : Prop := tableRisesRow.holds Try.pinned (OpenSpec.ofChange tableRisesWrong)

/-- 'chicanelaw08.TablePoints': WHATEVER THE INPUT: true; the input reads as it did. -/
def tablePointsSpec : ChangeSpec := { name := "tablePoints", fn := fun _ => fun
  | [d] => { results := [.lit (.bool true)], args := [d] }
  | _ => none }
def tablePointsRow : OpenClaim := { program := "ytnbgchkilpocmaa", sum := "45c08d9653e2b871757ac492cbf0787aa4e1b128ffcde572b0dc78fd0ddf32c8", func := "chicane/chicanelaw08.TablePoints", spec := "tablePoints", inPlace := ["internal/reflectlite.ValueOf", "(internal/reflectlite.Value).Len", "math/bits.Sub64", "math/bits.Add64"], unfollowed := true, recurses := true, named := ["math/bits.divideError", "math/bits.overflowError"], apart := false }
def TablePointsSaid : Prop := tablePointsRow.holds Try.pinned (OpenSpec.ofChange tablePointsSpec)

/-- ITS FALSE NEIGHBOUR: 'it returns false'. Refute it at one input. -/
def tablePointsWrong : ChangeSpec := { name := "tablePoints", fn := fun _ => fun
  | [d] => { results := [.lit (.bool false)], args := [d] }
  | _ => none }
def TablePointsWrongFalsely : Prop := tablePointsRow.holds Try.pinned (OpenSpec.ofChange tablePointsWrong)

/-- 'chicanelaw08.TableRight': WHATEVER THE INPUT: true; the input reads as it did. -/
def tableRightSpec : ChangeSpec := { name := "tableRight", fn := fun _ => fun
  | [d] => { results := [.lit (.bool true)], args := [d] }
  | _ => none }
def tableRightRow : OpenClaim := { program := "ytnbgchkilpocmaa", sum := "45c08d9653e2b871757ac492cbf0787aa4e1b128ffcde572b0dc78fd0ddf32c8", func := "chicane/chicanelaw08.TableRight", spec := "tableRight", inPlace := ["internal/reflectlite.ValueOf", "(internal/reflectlite.Value).Len", "math/bits.Sub64", "math/bits.Add64"], unfollowed := true, recurses := true, named := ["math/bits.divideError", "math/bits.overflowError"], apart := false }
def TableRightSaid : Prop := tableRightRow.holds Try.pinned (OpenSpec.ofChange tableRightSpec)

/-- ITS FALSE NEIGHBOUR: 'it returns false'. Refute it at one input. -/
def tableRightWrong : ChangeSpec := { name := "tableRight", fn := fun _ => fun
  | [d] => { results := [.lit (.bool false)], args := [d] }
  | _ => none }
def TableRightWrongFalsely : Prop := tableRightRow.holds Try.pinned (OpenSpec.ofChange tableRightWrong)

/-- 'chicanelaw08.TableBetween': WHATEVER THE INPUT: true; the input reads as it did. -/
def tableBetweenSpec : ChangeSpec := { name := "tableBetween", fn := fun _ => fun
  | [d1, d2] => { results := [.lit (.bool true)], args := [d1, d2] }
  | _ => none }
def tableBetweenRow : OpenClaim := { program := "ytnbgchkilpocmaa", sum := "45c08d9653e2b871757ac492cbf0787aa4e1b128ffcde572b0dc78fd0ddf32c8", func := "chicane/chicanelaw08.TableBetween", spec := "tableBetween", inPlace := ["internal/reflectlite.ValueOf", "(internal/reflectlite.Value).Len", "math/bits.Sub64", "math/bits.Add64"], unfollowed := true, recurses := true, named := ["math/bits.divideError", "math/bits.overflowError"], apart := false }
def TableBetweenSaid : Prop := tableBetweenRow.holds Try.pinned (OpenSpec.ofChange tableBetweenSpec)

/-- ITS FALSE NEIGHBOUR: 'it returns false'. Refute it at one input. -/
def tableBetweenWrong : ChangeSpec := { name := "tableBetween", fn := fun _ => fun
  | [d1, d2] => { results := [.lit (.bool false)], args := [d1, d2] }
  | _ => none }
def TableBetweenWrongFalsely : Prop := tableBetweenRow.holds Try.pinned (OpenSpec.ofChange tableBetweenWrong)

/- THE SECOND FORM. 'bulk': how many values and letters a reading holds, each counted each time it is reached (what is shared counts as often as it is met; a slice's spare places count too). A statement '..UptoSaid' is the law's where the arguments, and the package variables that the reading takes, are together of bulk at most 1048576: NARROWER than '..Said'. Prove '..Said' where nothing that the law and all that it calls make is longer than what came in: it says more and counts as full. Else prove '..UptoSaid'. A law counts once. -/
mutual
def uptoBulk {H : Type} : DataW H → Nat
  | .lit (.string bytes) => bytes.length + 1
  | .lit _ => 1
  | .nil => 1
  | .ptr d => uptoBulk d + 1
  | .slice elems spare => uptoBulkAll elems + uptoBulkAll spare + 1
  | .agg parts => uptoBulkAll parts + 1
  | .iface _ d => uptoBulk d + 1
  | .map entries => uptoBulkEntries entries + 1
  | .held _ => 1
def uptoBulkAll {H : Type} : List (DataW H) → Nat
  | [] => 0
  | d :: r => uptoBulk d + uptoBulkAll r
def uptoBulkEntries {H : Type} : List (Lit × DataW H) → Nat
  | [] => 0
  | x :: r => uptoBulkEntry x + uptoBulkEntries r
def uptoBulkEntry {H : Type} : Lit × DataW H → Nat
  | (.string bytes, d) => bytes.length + uptoBulk d + 1
  | (_, d) => uptoBulk d + 1
 end
def uptoSmall : (H : Type) → List (DataW H) → Bool := fun _ ds => decide (uptoBulkAll ds ≤ 1048576)
def OpenSpec.upto (s : _root_.Go.ChangeSpec) : _root_.Go.OpenSpec := { _root_.Go.OpenSpec.ofChange s with cond := some uptoSmall }

/-- 'chicanelaw08.TableEval', WHERE WHAT IT READS IS OF BULK AT MOST 1048576: true; the input reads as it did. -/
def tableEvalUptoRow : OpenClaim := { program := "ytnbgchkilpocmaa", sum := "45c08d9653e2b871757ac492cbf0787aa4e1b128ffcde572b0dc78fd0ddf32c8", func := "chicane/chicanelaw08.TableEval", spec := "tableEval", inPlace := ["internal/reflectlite.ValueOf", "(internal/reflectlite.Value).Len", "math/bits.Sub64", "math/bits.Add64"], unfollowed := true, recurses := true, named := ["math/bits.divideError", "math/bits.overflowError"], apart := false, narrowed := true }
def TableEvalUptoSaid : Prop := tableEvalUptoRow.holds Try.pinned (OpenSpec.upto tableEvalSpec)

/-- 'chicanelaw08.TableRises', WHERE WHAT IT READS IS OF BULK AT MOST 1048576: true; the input reads as it did. -/
def tableRisesUptoRow : OpenClaim := { program := "ytnbgchkilpocmaa", sum := "45c08d9653e2b871757ac492cbf0787aa4e1b128ffcde572b0dc78fd0ddf32c8", func := "chicane/chicanelaw08.TableRises", spec := "tableRises", inPlace := ["internal/reflectlite.ValueOf", "(internal/reflectlite.Value).Len", "math/bits.Sub64", "math/bits.Add64"], unfollowed := true, recurses := true, named := ["math/bits.divideError", "math/bits.overflowError"], apart := false, narrowed := true }
def TableRisesUptoSaid : Prop := tableRisesUptoRow.holds Try.pinned (OpenSpec.upto tableRisesSpec)

/-- 'chicanelaw08.TablePoints', WHERE WHAT IT READS IS OF BULK AT MOST 1048576: true; the input reads as it did. -/
def tablePointsUptoRow : OpenClaim := { program := "ytnbgchkilpocmaa", sum := "45c08d9653e2b871757ac492cbf0787aa4e1b128ffcde572b0dc78fd0ddf32c8", func := "chicane/chicanelaw08.TablePoints", spec := "tablePoints", inPlace := ["internal/reflectlite.ValueOf", "(internal/reflectlite.Value).Len", "math/bits.Sub64", "math/bits.Add64"], unfollowed := true, recurses := true, named := ["math/bits.divideError", "math/bits.overflowError"], apart := false, narrowed := true }
def TablePointsUptoSaid : Prop := tablePointsUptoRow.holds Try.pinned (OpenSpec.upto tablePointsSpec)

/-- 'chicanelaw08.TableRight', WHERE WHAT IT READS IS OF BULK AT MOST 1048576: true; the input reads as it did. -/
def tableRightUptoRow : OpenClaim := { program := "ytnbgchkilpocmaa", sum := "45c08d9653e2b871757ac492cbf0787aa4e1b128ffcde572b0dc78fd0ddf32c8", func := "chicane/chicanelaw08.TableRight", spec := "tableRight", inPlace := ["internal/reflectlite.ValueOf", "(internal/reflectlite.Value).Len", "math/bits.Sub64", "math/bits.Add64"], unfollowed := true, recurses := true, named := ["math/bits.divideError", "math/bits.overflowError"], apart := false, narrowed := true }
def TableRightUptoSaid : Prop := tableRightUptoRow.holds Try.pinned (OpenSpec.upto tableRightSpec)

/-- 'chicanelaw08.TableBetween', WHERE WHAT IT READS IS OF BULK AT MOST 1048576: true; the input reads as it did. -/
def tableBetweenUptoRow : OpenClaim := { program := "ytnbgchkilpocmaa", sum := "45c08d9653e2b871757ac492cbf0787aa4e1b128ffcde572b0dc78fd0ddf32c8", func := "chicane/chicanelaw08.TableBetween", spec := "tableBetween", inPlace := ["internal/reflectlite.ValueOf", "(internal/reflectlite.Value).Len", "math/bits.Sub64", "math/bits.Add64"], unfollowed := true, recurses := true, named := ["math/bits.divideError", "math/bits.overflowError"], apart := false, narrowed := true }
def TableBetweenUptoSaid : Prop := tableBetweenUptoRow.holds Try.pinned (OpenSpec.upto tableBetweenSpec)

end Rows
end Go.Proofs.Ytnbgchkilpocmaa
