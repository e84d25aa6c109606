/-
  No cell of these rows narrows 'for every input' (looked for: loops, veiled, ifaces, maps, wideKeys, modest, calm, conditions, laid).
  DERIVED. THE GIVEN ROWS OF THIS SEAT. 4 by the template 'for every input the law returns true; each argument reads behind the call as it read before'; 0 by the template 'total and deterministic' (their statements: YtkamnpkcjokncaaTotals.lean).
  GIVEN WITH THE SEED: the statements are not yours to turn. If you find one false, say at which input.
  Laid BY PROGRAM, IN A SANDBOX (cutbox-rows.mjs): the forced cells as the released guide's own fill.sh prints them over the translation a01ad6d493581534… (all of the seat's roots in one cut). By AI agents, Wed Nov 11 2026. No macro, syntax, notation, axiom, sorry.
-/
import Derived.Test.YtkamnpkcjokncaaChecked
import GoSem.Claim
import GoSem.ClaimJoined
import GoSem.ClaimMapViews
import Derived.JoinedTies
import Derived.KernelRfl
namespace Go.Proofs.Ytkamnpkcjokncaa
/- THE CELL 'sum', in the pinned program and in every row, IS THE sha256 OF THE DUMP (.gsa) THAT YtkamnpkcjokncaaProg.lean LOADS. Nothing in Lean hashes anything: it is a label: what it is worth is what the hold of that sum in a sandbox is worth. -/
noncomputable def Try.pinned : Pinned := { name := "ytkamnpkcjokncaa", sum := "a01ad6d4935815346e27ce0b80e34cac03ab6e3d0a34c29f4ed4dc24f98c5ee0", checked := Try.checked }
namespace Rows
def none {H : Type} : Left H := { results := [], args := [] }

/-- 'chicanelaw09.PaneRight': WHATEVER THE INPUT: true; the input reads as it did. -/
def paneRightSpec : ChangeSpec := { name := "paneRight", fn := fun _ => fun
  | [d1, d2] => { results := [.lit (.bool true)], args := [d1, d2] }
  | _ => none }
def paneRightRow : OpenClaim := { program := "ytkamnpkcjokncaa", sum := "a01ad6d4935815346e27ce0b80e34cac03ab6e3d0a34c29f4ed4dc24f98c5ee0", func := "chicane/chicanelaw09.PaneRight", spec := "paneRight", inPlace := ["internal/reflectlite.ValueOf", "(internal/reflectlite.Value).Len", "math/bits.Sub64", "math/bits.Add64"], unfollowed := true, recurses := true, named := ["math/bits.divideError", "math/bits.overflowError"], apart := false }
def PaneRightSaid : Prop := paneRightRow.holds Try.pinned (OpenSpec.ofChange paneRightSpec)

/-- ITS FALSE NEIGHBOUR: 'it returns false'. Refute it at one input. -/
def paneRightWrong : ChangeSpec := { name := "paneRight", fn := fun _ => fun
  | [d1, d2] => { results := [.lit (.bool false)], args := [d1, d2] }
  | _ => none }
def PaneRightWrongFalsely : Prop := paneRightRow.holds Try.pinned (OpenSpec.ofChange paneRightWrong)

/-- 'chicanelaw09.PaneEval': WHATEVER THE INPUT: true; the input reads as it did. -/
def paneEvalSpec : ChangeSpec := { name := "paneEval", fn := fun _ => fun
  | [d1, d2, d3] => { results := [.lit (.bool true)], args := [d1, d2, d3] }
  | _ => none }
def paneEvalRow : OpenClaim := { program := "ytkamnpkcjokncaa", sum := "a01ad6d4935815346e27ce0b80e34cac03ab6e3d0a34c29f4ed4dc24f98c5ee0", func := "chicane/chicanelaw09.PaneEval", spec := "paneEval", inPlace := ["internal/reflectlite.ValueOf", "(internal/reflectlite.Value).Len", "math/bits.Sub64", "math/bits.Add64"], unfollowed := true, recurses := true, named := ["math/bits.divideError", "math/bits.overflowError"], apart := false }
def PaneEvalSaid : Prop := paneEvalRow.holds Try.pinned (OpenSpec.ofChange paneEvalSpec)

/-- ITS FALSE NEIGHBOUR: 'it returns false'. Refute it at one input. -/
def paneEvalWrong : ChangeSpec := { name := "paneEval", fn := fun _ => fun
  | [d1, d2, d3] => { results := [.lit (.bool false)], args := [d1, d2, d3] }
  | _ => none }
def PaneEvalWrongFalsely : Prop := paneEvalRow.holds Try.pinned (OpenSpec.ofChange paneEvalWrong)

/-- 'chicanelaw09.PaneBetween': WHATEVER THE INPUT: true; the input reads as it did. -/
def paneBetweenSpec : ChangeSpec := { name := "paneBetween", fn := fun _ => fun
  | [d1, d2, d3] => { results := [.lit (.bool true)], args := [d1, d2, d3] }
  | _ => none }
def paneBetweenRow : OpenClaim := { program := "ytkamnpkcjokncaa", sum := "a01ad6d4935815346e27ce0b80e34cac03ab6e3d0a34c29f4ed4dc24f98c5ee0", func := "chicane/chicanelaw09.PaneBetween", spec := "paneBetween", inPlace := ["internal/reflectlite.ValueOf", "(internal/reflectlite.Value).Len", "math/bits.Sub64", "math/bits.Add64"], unfollowed := true, recurses := true, named := ["math/bits.divideError", "math/bits.overflowError"], apart := false }
def PaneBetweenSaid : Prop := paneBetweenRow.holds Try.pinned (OpenSpec.ofChange paneBetweenSpec)

/-- ITS FALSE NEIGHBOUR: 'it returns false'. Refute it at one input. -/
def paneBetweenWrong : ChangeSpec := { name := "paneBetween", fn := fun _ => fun
  | [d1, d2, d3] => { results := [.lit (.bool false)], args := [d1, d2, d3] }
  | _ => none }
def PaneBetweenWrongFalsely : Prop := paneBetweenRow.holds Try.pinned (OpenSpec.ofChange paneBetweenWrong)

/-- 'chicanelaw09.PanePoints': WHATEVER THE INPUT: true; the input reads as it did. -/
def panePointsSpec : ChangeSpec := { name := "panePoints", fn := fun _ => fun
  | [d] => { results := [.lit (.bool true)], args := [d] }
  | _ => none }
def panePointsRow : OpenClaim := { program := "ytkamnpkcjokncaa", sum := "a01ad6d4935815346e27ce0b80e34cac03ab6e3d0a34c29f4ed4dc24f98c5ee0", func := "chicane/chicanelaw09.PanePoints", spec := "panePoints", inPlace := ["internal/reflectlite.ValueOf", "(internal/reflectlite.Value).Len", "math/bits.Sub64", "math/bits.Add64"], unfollowed := true, recurses := true, named := ["math/bits.divideError", "math/bits.overflowError"], apart := false }
def PanePointsSaid : Prop := panePointsRow.holds Try.pinned (OpenSpec.ofChange panePointsSpec)

/-- ITS FALSE NEIGHBOUR: 'it returns false'. Refute it at one input. -/
def panePointsWrong : ChangeSpec := { name := "panePoints", fn := fun _ => fun
  | [d] => { results := [.lit (.bool false)], args := [d] }
  | _ => none }
def PanePointsWrongFalsely : Prop := panePointsRow.holds Try.pinned (OpenSpec.ofChange panePointsWrong)

/- THE SECOND FORM. 'bulk': how many values and letters a reading holds, each counted each time it is reached (what is shared counts as often as it is met; a slice's spare places count too). A statement '..UptoSaid' is the law's where the arguments, and the package variables that the reading takes, are together of bulk at most 1048576: NARROWER than '..Said'. Prove '..Said' where nothing that the law and all that it calls make is longer than what came in: it says more and counts as full. Else prove '..UptoSaid'. A law counts once. -/
mutual
def uptoBulk {H : Type} : DataW H → Nat
  | .lit (.string bytes) => bytes.length + 1
  | .lit _ => 1
  | .nil => 1
  | .ptr d => uptoBulk d + 1
  | .slice elems spare => uptoBulkAll elems + uptoBulkAll spare + 1
  | .agg parts => uptoBulkAll parts + 1
  | .iface _ d => uptoBulk d + 1
  | .map entries => uptoBulkEntries entries + 1
  | .held _ => 1
def uptoBulkAll {H : Type} : List (DataW H) → Nat
  | [] => 0
  | d :: r => uptoBulk d + uptoBulkAll r
def uptoBulkEntries {H : Type} : List (Lit × DataW H) → Nat
  | [] => 0
  | x :: r => uptoBulkEntry x + uptoBulkEntries r
def uptoBulkEntry {H : Type} : Lit × DataW H → Nat
  | (.string bytes, d) => bytes.length + uptoBulk d + 1
  | (_, d) => uptoBulk d + 1
 end
def uptoSmall : (H : Type) → List (DataW H) → Bool := fun _ ds => decide (uptoBulkAll ds ≤ 1048576)
def OpenSpec.upto (s : _root_.Go.ChangeSpec) : _root_.Go.OpenSpec := { _root_.Go.OpenSpec.ofChange s with cond := some uptoSmall }

/-- 'chicanelaw09.PaneRight', WHERE WHAT IT READS IS OF BULK AT MOST 1048576: true; the input reads as it did. -/
def paneRightUptoRow : OpenClaim := { program := "ytkamnpkcjokncaa", sum := "a01ad6d4935815346e27ce0b80e34cac03ab6e3d0a34c29f4ed4dc24f98c5ee0", func := "chicane/chicanelaw09.PaneRight", spec := "paneRight", inPlace := ["internal/reflectlite.ValueOf", "(internal/reflectlite.Value).Len", "math/bits.Sub64", "math/bits.Add64"], unfollowed := true, recurses := true, named := ["math/bits.divideError", "math/bits.overflowError"], apart := false, narrowed := true }
def PaneRightUptoSaid : Prop := paneRightUptoRow.holds Try.pinned (OpenSpec.upto paneRightSpec)

/-- 'chicanelaw09.PaneEval', WHERE WHAT IT READS IS OF BULK AT MOST 1048576: true; the input reads as it did. -/
def paneEvalUptoRow : OpenClaim := { program := "ytkamnpkcjokncaa", sum := "a01ad6d4935815346e27ce0b80e34cac03ab6e3d0a34c29f4ed4dc24f98c5ee0", func := "chicane/chicanelaw09.PaneEval", spec := "paneEval", inPlace := ["internal/reflectlite.ValueOf", "(internal/reflectlite.Value).Len", "math/bits.Sub64", "math/bits.Add64"], unfollowed := true, recurses := true, named := ["math/bits.divideError", "math/bits.overflowError"], apart := false, narrowed := true }
def PaneEvalUptoSaid : Prop := paneEvalUptoRow.holds Try.pinned (OpenSpec.upto paneEvalSpec)

/-- 'chicanelaw09.PaneBetween', WHERE WHAT IT READS IS OF BULK AT MOST 1048576: true; the input reads as it did. -/
def paneBetweenUptoRow : OpenClaim := { program := "ytkamnpkcjokncaa", sum := "a01ad6d4935815346e27ce0b80e34cac03ab6e3d0a34c29f4ed4dc24f98c5ee0", func := "chicane/chicanelaw09.PaneBetween", spec := "paneBetween", inPlace := ["internal/reflectlite.ValueOf", "(internal/reflectlite.Value).Len", "math/bits.Sub64", "math/bits.Add64"], unfollowed := true, recurses := true, named := ["math/bits.divideError", "math/bits.overflowError"], apart := false, narrowed := true }
def PaneBetweenUptoSaid : Prop := paneBetweenUptoRow.holds Try.pinned (OpenSpec.upto paneBetweenSpec)

/-- 'chicanelaw09.PanePoints', WHERE WHAT IT READS IS OF BULK AT MOST 1048576: true; the input reads as it did. -/
def panePointsUptoRow : OpenClaim := { program := "ytkamnpkcjokncaa", sum := "a01ad6d4935815346e27ce0b80e34cac03ab6e3d0a34c29f4ed4dc24f98c5ee0", func := "chicane/chicanelaw09.PanePoints", spec := "panePoints", inPlace := ["internal/reflectlite.ValueOf", "(internal/reflectlite.Value).Len", "math/bits.Sub64", "math/bits.Add64"], unfollowed := true, recurses := true, named := ["math/bits.divideError", "math/bits.overflowError"], apart := false, narrowed := true }
def PanePointsUptoSaid : Prop := panePointsUptoRow.holds Try.pinned (OpenSpec.upto panePointsSpec)

end Rows
end Go.Proofs.Ytkamnpkcjokncaa
