/-
  No cell of these rows narrows 'for every input' (looked for: loops, veiled, ifaces, maps, wideKeys, modest, calm, conditions, laid).
  DERIVED. THE GIVEN ROWS OF THIS SEAT. 4 by the template 'for every input the law returns true; each argument reads behind the call as it read before'; 0 by the template 'total and deterministic' (their statements: YtpdimjdecjhbcaaTotals.lean).
  GIVEN WITH THE SEED: the statements are not yours to turn. If you find one false, say at which input.
  Laid BY PROGRAM, IN A SANDBOX (cutbox-rows.mjs): the forced cells as the released guide's own fill.sh prints them over the translation a82324cdf6de8d8c… (all of the seat's roots in one cut). By AI agents, Wed Nov 11 2026. No macro, syntax, notation, axiom, sorry.
-/
import Derived.Test.YtpdimjdecjhbcaaChecked
import GoSem.Claim
import GoSem.ClaimJoined
import GoSem.ClaimMapViews
import Derived.JoinedTies
import Derived.KernelRfl
namespace Go.Proofs.Ytpdimjdecjhbcaa
/- THE CELL 'sum', in the pinned program and in every row, IS THE sha256 OF THE DUMP (.gsa) THAT YtpdimjdecjhbcaaProg.lean LOADS. Nothing in Lean hashes anything: it is a label: what it is worth is what the hold of that sum in a sandbox is worth. -/
noncomputable def Try.pinned : Pinned := { name := "ytpdimjdecjhbcaa", sum := "a82324cdf6de8d8ccca4d75c35f5609a9d226ce1de7965d564eee5d91b682b0d", checked := Try.checked }
namespace Rows
def none {H : Type} : Left H := { results := [], args := [] }

/-- 'chicanelaw25.SuspLoads': WHATEVER THE INPUT: true; the input reads as it did. -/
def suspLoadsSpec : ChangeSpec := { name := "suspLoads", fn := fun _ => fun
  | [d1, d2, d3] => { results := [.lit (.bool true)], args := [d1, d2, d3] }
  | _ => none }
def suspLoadsRow : OpenClaim := { program := "ytpdimjdecjhbcaa", sum := "a82324cdf6de8d8ccca4d75c35f5609a9d226ce1de7965d564eee5d91b682b0d", func := "chicane/chicanelaw25.SuspLoads", spec := "suspLoads", inPlace := ["math/bits.Sub64", "math/bits.Add64", "internal/reflectlite.ValueOf", "(internal/reflectlite.Value).Len"], unfollowed := true, recurses := true, named := ["math/bits.divideError", "math/bits.overflowError"], apart := false }
def SuspLoadsSaid : Prop := suspLoadsRow.holds Try.pinned (OpenSpec.ofChange suspLoadsSpec)

/-- ITS FALSE NEIGHBOUR: 'it returns false'. Refute it at one input. -/
def suspLoadsWrong : ChangeSpec := { name := "suspLoads", fn := fun _ => fun
  | [d1, d2, d3] => { results := [.lit (.bool false)], args := [d1, d2, d3] }
  | _ => none }
def SuspLoadsWrongFalsely : Prop := suspLoadsRow.holds Try.pinned (OpenSpec.ofChange suspLoadsWrong)

/-- 'chicanelaw25.SuspRises': WHATEVER THE INPUT: true; the input reads as it did. -/
def suspRisesSpec : ChangeSpec := { name := "suspRises", fn := fun _ => fun
  | [d1, d2, d3] => { results := [.lit (.bool true)], args := [d1, d2, d3] }
  | _ => none }
def suspRisesRow : OpenClaim := { program := "ytpdimjdecjhbcaa", sum := "a82324cdf6de8d8ccca4d75c35f5609a9d226ce1de7965d564eee5d91b682b0d", func := "chicane/chicanelaw25.SuspRises", spec := "suspRises", inPlace := ["math/bits.Add64", "math/bits.Sub64", "internal/reflectlite.ValueOf", "(internal/reflectlite.Value).Len"], unfollowed := true, recurses := true, named := ["math/bits.divideError", "math/bits.overflowError"], apart := false }
def SuspRisesSaid : Prop := suspRisesRow.holds Try.pinned (OpenSpec.ofChange suspRisesSpec)

/-- ITS FALSE NEIGHBOUR: 'it returns false'. Refute it at one input. -/
def suspRisesWrong : ChangeSpec := { name := "suspRises", fn := fun _ => fun
  | [d1, d2, d3] => { results := [.lit (.bool false)], args := [d1, d2, d3] }
  | _ => none }
def SuspRisesWrongFalsely : Prop := suspRisesRow.holds Try.pinned (OpenSpec.ofChange suspRisesWrong)

/-- 'chicanelaw25.SuspDamps': WHATEVER THE INPUT: true; the input reads as it did. -/
def suspDampsSpec : ChangeSpec := { name := "suspDamps", fn := fun _ => fun
  | [d1, d2, d3] => { results := [.lit (.bool true)], args := [d1, d2, d3] }
  | _ => none }
def suspDampsRow : OpenClaim := { program := "ytpdimjdecjhbcaa", sum := "a82324cdf6de8d8ccca4d75c35f5609a9d226ce1de7965d564eee5d91b682b0d", func := "chicane/chicanelaw25.SuspDamps", spec := "suspDamps", inPlace := ["math/bits.Add64", "math/bits.Sub64", "internal/reflectlite.ValueOf", "(internal/reflectlite.Value).Len"], unfollowed := true, recurses := true, named := ["math/bits.divideError", "math/bits.overflowError"], apart := false }
def SuspDampsSaid : Prop := suspDampsRow.holds Try.pinned (OpenSpec.ofChange suspDampsSpec)

/-- ITS FALSE NEIGHBOUR: 'it returns false'. Refute it at one input. -/
def suspDampsWrong : ChangeSpec := { name := "suspDamps", fn := fun _ => fun
  | [d1, d2, d3] => { results := [.lit (.bool false)], args := [d1, d2, d3] }
  | _ => none }
def SuspDampsWrongFalsely : Prop := suspDampsRow.holds Try.pinned (OpenSpec.ofChange suspDampsWrong)

/-- 'chicanelaw25.SuspBounds': WHATEVER THE INPUT: true; the input reads as it did. -/
def suspBoundsSpec : ChangeSpec := { name := "suspBounds", fn := fun _ => fun
  | [d1, d2, d3] => { results := [.lit (.bool true)], args := [d1, d2, d3] }
  | _ => none }
def suspBoundsRow : OpenClaim := { program := "ytpdimjdecjhbcaa", sum := "a82324cdf6de8d8ccca4d75c35f5609a9d226ce1de7965d564eee5d91b682b0d", func := "chicane/chicanelaw25.SuspBounds", spec := "suspBounds", inPlace := ["math/bits.Add64", "math/bits.Sub64", "internal/reflectlite.ValueOf", "(internal/reflectlite.Value).Len"], unfollowed := true, recurses := true, named := ["math/bits.divideError", "math/bits.overflowError"], apart := false }
def SuspBoundsSaid : Prop := suspBoundsRow.holds Try.pinned (OpenSpec.ofChange suspBoundsSpec)

/-- ITS FALSE NEIGHBOUR: 'it returns false'. Refute it at one input. -/
def suspBoundsWrong : ChangeSpec := { name := "suspBounds", fn := fun _ => fun
  | [d1, d2, d3] => { results := [.lit (.bool false)], args := [d1, d2, d3] }
  | _ => none }
def SuspBoundsWrongFalsely : Prop := suspBoundsRow.holds Try.pinned (OpenSpec.ofChange suspBoundsWrong)

/- THE SECOND FORM. 'bulk': how many values and letters a reading holds, each counted each time it is reached (what is shared counts as often as it is met; a slice's spare places count too). A statement '..UptoSaid' is the law's where the arguments, and the package variables that the reading takes, are together of bulk at most 1048576: NARROWER than '..Said'. Prove '..Said' where nothing that the law and all that it calls make is longer than what came in: it says more and counts as full. Else prove '..UptoSaid'. A law counts once. -/
mutual
def uptoBulk {H : Type} : DataW H → Nat
  | .lit (.string bytes) => bytes.length + 1
  | .lit _ => 1
  | .nil => 1
  | .ptr d => uptoBulk d + 1
  | .slice elems spare => uptoBulkAll elems + uptoBulkAll spare + 1
  | .agg parts => uptoBulkAll parts + 1
  | .iface _ d => uptoBulk d + 1
  | .map entries => uptoBulkEntries entries + 1
  | .held _ => 1
def uptoBulkAll {H : Type} : List (DataW H) → Nat
  | [] => 0
  | d :: r => uptoBulk d + uptoBulkAll r
def uptoBulkEntries {H : Type} : List (Lit × DataW H) → Nat
  | [] => 0
  | x :: r => uptoBulkEntry x + uptoBulkEntries r
def uptoBulkEntry {H : Type} : Lit × DataW H → Nat
  | (.string bytes, d) => bytes.length + uptoBulk d + 1
  | (_, d) => uptoBulk d + 1
 end
def uptoSmall : (H : Type) → List (DataW H) → Bool := fun _ ds => decide (uptoBulkAll ds ≤ 1048576)
def OpenSpec.upto (s : _root_.Go.ChangeSpec) : _root_.Go.OpenSpec := { _root_.Go.OpenSpec.ofChange s with cond := some uptoSmall }

/-- 'chicanelaw25.SuspLoads', WHERE WHAT IT READS IS OF BULK AT MOST 1048576: true; the input reads as it did. -/
def suspLoadsUptoRow : OpenClaim := { program := "ytpdimjdecjhbcaa", sum := "a82324cdf6de8d8ccca4d75c35f5609a9d226ce1de7965d564eee5d91b682b0d", func := "chicane/chicanelaw25.SuspLoads", spec := "suspLoads", inPlace := ["math/bits.Sub64", "math/bits.Add64", "internal/reflectlite.ValueOf", "(internal/reflectlite.Value).Len"], unfollowed := true, recurses := true, named := ["math/bits.divideError", "math/bits.overflowError"], apart := false, narrowed := true }
def SuspLoadsUptoSaid : Prop := suspLoadsUptoRow.holds Try.pinned (OpenSpec.upto suspLoadsSpec)

/-- 'chicanelaw25.SuspRises', WHERE WHAT IT READS IS OF BULK AT MOST 1048576: true; the input reads as it did. -/
def suspRisesUptoRow : OpenClaim := { program := "ytpdimjdecjhbcaa", sum := "a82324cdf6de8d8ccca4d75c35f5609a9d226ce1de7965d564eee5d91b682b0d", func := "chicane/chicanelaw25.SuspRises", spec := "suspRises", inPlace := ["math/bits.Add64", "math/bits.Sub64", "internal/reflectlite.ValueOf", "(internal/reflectlite.Value).Len"], unfollowed := true, recurses := true, named := ["math/bits.divideError", "math/bits.overflowError"], apart := false, narrowed := true }
def SuspRisesUptoSaid : Prop := suspRisesUptoRow.holds Try.pinned (OpenSpec.upto suspRisesSpec)

/-- 'chicanelaw25.SuspDamps', WHERE WHAT IT READS IS OF BULK AT MOST 1048576: true; the input reads as it did. -/
def suspDampsUptoRow : OpenClaim := { program := "ytpdimjdecjhbcaa", sum := "a82324cdf6de8d8ccca4d75c35f5609a9d226ce1de7965d564eee5d91b682b0d", func := "chicane/chicanelaw25.SuspDamps", spec := "suspDamps", inPlace := ["math/bits.Add64", "math/bits.Sub64", "internal/reflectlite.ValueOf", "(internal/reflectlite.Value).Len"], unfollowed := true, recurses := true, named := ["math/bits.divideError", "math/bits.overflowError"], apart := false, narrowed := true }
def SuspDampsUptoSaid : Prop := suspDampsUptoRow.holds Try.pinned (OpenSpec.upto suspDampsSpec)

/-- 'chicanelaw25.SuspBounds', WHERE WHAT IT READS IS OF BULK AT MOST 1048576: true; the input reads as it did. -/
def suspBoundsUptoRow : OpenClaim := { program := "ytpdimjdecjhbcaa", sum := "a82324cdf6de8d8ccca4d75c35f5609a9d226ce1de7965d564eee5d91b682b0d", func := "chicane/chicanelaw25.SuspBounds", spec := "suspBounds", inPlace := ["math/bits.Add64", "math/bits.Sub64", "internal/reflectlite.ValueOf", "(internal/reflectlite.Value).Len"], unfollowed := true, recurses := true, named := ["math/bits.divideError", "math/bits.overflowError"], apart := false, narrowed := true }
def SuspBoundsUptoSaid : Prop := suspBoundsUptoRow.holds Try.pinned (OpenSpec.upto suspBoundsSpec)

end Rows
end Go.Proofs.Ytpdimjdecjhbcaa
