/-
  No cell of these rows narrows 'for every input' (looked for: loops, veiled, ifaces, maps, wideKeys, modest, calm, conditions, laid).
  DERIVED. THE GIVEN ROWS OF THIS SEAT. 3 by the template 'for every input the law returns true; each argument reads behind the call as it read before'; 0 by the template 'total and deterministic' (their statements: YthlfckhjhagfaaaTotals.lean).
  GIVEN WITH THE SEED: the statements are not yours to turn. If you find one false, say at which input.
  Laid BY PROGRAM, IN A SANDBOX (cutbox-rows.mjs): the forced cells as the released guide's own fill.sh prints them over the translation 02ea615cedd13e26… (all of the seat's roots in one cut). By AI agents, Wed Nov 11 2026. No macro, syntax, notation, axiom, sorry.
-/
import Derived.Test.YthlfckhjhagfaaaChecked
import GoSem.Claim
import GoSem.ClaimJoined
import GoSem.ClaimMapViews
import Derived.JoinedTies
import Derived.KernelRfl
namespace Go.Proofs.Ythlfckhjhagfaaa
/- THE CELL 'sum', in the pinned program and in every row, IS THE sha256 OF THE DUMP (.gsa) THAT YthlfckhjhagfaaaProg.lean LOADS. Nothing in Lean hashes anything: it is a label: what it is worth is what the hold of that sum in a sandbox is worth. -/
noncomputable def Try.pinned : Pinned := { name := "ythlfckhjhagfaaa", sum := "02ea615cedd13e26c625e5edfda74180b4869a770d79cb6dfd661d8f466540cc", checked := Try.checked }
namespace Rows
def none {H : Type} : Left H := { results := [], args := [] }

/-- 'chicanelaw26.TyreBounds': WHATEVER THE INPUT: true; the input reads as it did. -/
def tyreBoundsSpec : ChangeSpec := { name := "tyreBounds", fn := fun _ => fun
  | [d] => { results := [.lit (.bool true)], args := [d] }
  | _ => none }
def tyreBoundsRow : OpenClaim := { program := "ythlfckhjhagfaaa", sum := "02ea615cedd13e26c625e5edfda74180b4869a770d79cb6dfd661d8f466540cc", func := "chicane/chicanelaw26.TyreBounds", spec := "tyreBounds", inPlace := ["math/bits.Sub64", "math/bits.Add64", "internal/reflectlite.ValueOf", "(internal/reflectlite.Value).Len"], unfollowed := true, recurses := true, named := ["math/bits.divideError", "math/bits.overflowError"], apart := false }
def TyreBoundsSaid : Prop := tyreBoundsRow.holds Try.pinned (OpenSpec.ofChange tyreBoundsSpec)

/-- ITS FALSE NEIGHBOUR: 'it returns false'. Refute it at one input. -/
def tyreBoundsWrong : ChangeSpec := { name := "tyreBounds", fn := fun _ => fun
  | [d] => { results := [.lit (.bool false)], args := [d] }
  | _ => none }
def TyreBoundsWrongFalsely : Prop := tyreBoundsRow.holds Try.pinned (OpenSpec.ofChange tyreBoundsWrong)

/-- 'chicanelaw26.TyreSlows': WHATEVER THE INPUT: true; the input reads as it did. -/
def tyreSlowsSpec : ChangeSpec := { name := "tyreSlows", fn := fun _ => fun
  | [d1, d2] => { results := [.lit (.bool true)], args := [d1, d2] }
  | _ => none }
def tyreSlowsRow : OpenClaim := { program := "ythlfckhjhagfaaa", sum := "02ea615cedd13e26c625e5edfda74180b4869a770d79cb6dfd661d8f466540cc", func := "chicane/chicanelaw26.TyreSlows", spec := "tyreSlows", inPlace := ["math/bits.Add64", "math/bits.Sub64", "internal/reflectlite.ValueOf", "(internal/reflectlite.Value).Len"], unfollowed := true, recurses := true, named := ["math/bits.divideError", "math/bits.overflowError"], apart := false }
def TyreSlowsSaid : Prop := tyreSlowsRow.holds Try.pinned (OpenSpec.ofChange tyreSlowsSpec)

/-- ITS FALSE NEIGHBOUR: 'it returns false'. Refute it at one input. -/
def tyreSlowsWrong : ChangeSpec := { name := "tyreSlows", fn := fun _ => fun
  | [d1, d2] => { results := [.lit (.bool false)], args := [d1, d2] }
  | _ => none }
def TyreSlowsWrongFalsely : Prop := tyreSlowsRow.holds Try.pinned (OpenSpec.ofChange tyreSlowsWrong)

/-- 'chicanelaw26.TyreMost': WHATEVER THE INPUT: true; the input reads as it did. -/
def tyreMostSpec : ChangeSpec := { name := "tyreMost", fn := fun _ => fun
  | [d1, d2] => { results := [.lit (.bool true)], args := [d1, d2] }
  | _ => none }
def tyreMostRow : OpenClaim := { program := "ythlfckhjhagfaaa", sum := "02ea615cedd13e26c625e5edfda74180b4869a770d79cb6dfd661d8f466540cc", func := "chicane/chicanelaw26.TyreMost", spec := "tyreMost", inPlace := ["math/bits.Add64", "math/bits.Sub64", "internal/reflectlite.ValueOf", "(internal/reflectlite.Value).Len"], unfollowed := true, recurses := true, named := ["math/bits.divideError", "math/bits.overflowError"], apart := false }
def TyreMostSaid : Prop := tyreMostRow.holds Try.pinned (OpenSpec.ofChange tyreMostSpec)

/-- ITS FALSE NEIGHBOUR: 'it returns false'. Refute it at one input. -/
def tyreMostWrong : ChangeSpec := { name := "tyreMost", fn := fun _ => fun
  | [d1, d2] => { results := [.lit (.bool false)], args := [d1, d2] }
  | _ => none }
def TyreMostWrongFalsely : Prop := tyreMostRow.holds Try.pinned (OpenSpec.ofChange tyreMostWrong)

/- THE SECOND FORM. 'bulk': how many values and letters a reading holds, each counted each time it is reached (what is shared counts as often as it is met; a slice's spare places count too). A statement '..UptoSaid' is the law's where the arguments, and the package variables that the reading takes, are together of bulk at most 1048576: NARROWER than '..Said'. Prove '..Said' where nothing that the law and all that it calls make is longer than what came in: it says more and counts as full. Else prove '..UptoSaid'. A law counts once. -/
mutual
def uptoBulk {H : Type} : DataW H → Nat
  | .lit (.string bytes) => bytes.length + 1
  | .lit _ => 1
  | .nil => 1
  | .ptr d => uptoBulk d + 1
  | .slice elems spare => uptoBulkAll elems + uptoBulkAll spare + 1
  | .agg parts => uptoBulkAll parts + 1
  | .iface _ d => uptoBulk d + 1
  | .map entries => uptoBulkEntries entries + 1
  | .held _ => 1
def uptoBulkAll {H : Type} : List (DataW H) → Nat
  | [] => 0
  | d :: r => uptoBulk d + uptoBulkAll r
def uptoBulkEntries {H : Type} : List (Lit × DataW H) → Nat
  | [] => 0
  | x :: r => uptoBulkEntry x + uptoBulkEntries r
def uptoBulkEntry {H : Type} : Lit × DataW H → Nat
  | (.string bytes, d) => bytes.length + uptoBulk d + 1
  | (_, d) => uptoBulk d + 1
 end
def uptoSmall : (H : Type) → List (DataW H) → Bool := fun _ ds => decide (uptoBulkAll ds ≤ 1048576)
def OpenSpec.upto (s : _root_.Go.ChangeSpec) : _root_.Go.OpenSpec := { _root_.Go.OpenSpec.ofChange s with cond := some uptoSmall }

/-- 'chicanelaw26.TyreBounds', WHERE WHAT IT READS IS OF BULK AT MOST 1048576: true; the input reads as it did. -/
def tyreBoundsUptoRow : OpenClaim := { program := "ythlfckhjhagfaaa", sum := "02ea615cedd13e26c625e5edfda74180b4869a770d79cb6dfd661d8f466540cc", func := "chicane/chicanelaw26.TyreBounds", spec := "tyreBounds", inPlace := ["math/bits.Sub64", "math/bits.Add64", "internal/reflectlite.ValueOf", "(internal/reflectlite.Value).Len"], unfollowed := true, recurses := true, named := ["math/bits.divideError", "math/bits.overflowError"], apart := false, narrowed := true }
def TyreBoundsUptoSaid : Prop := tyreBoundsUptoRow.holds Try.pinned (OpenSpec.upto tyreBoundsSpec)

/-- 'chicanelaw26.TyreSlows', WHERE WHAT IT READS IS OF BULK AT MOST 1048576: true; the input reads as it did. -/
def tyreSlowsUptoRow : OpenClaim := { program := "ythlfckhjhagfaaa", sum := "02ea615cedd13e26c625e5edfda74180b4869a770d79cb6dfd661d8f466540cc", func := "chicane/chicanelaw26.TyreSlows", spec := "tyreSlows", inPlace := ["math/bits.Add64", "math/bits.Sub64", "internal/reflectlite.ValueOf", "(internal/reflectlite.Value).Len"], unfollowed := true, recurses := true, named := ["math/bits.divideError", "math/bits.overflowError"], apart := false, narrowed := true }
def TyreSlowsUptoSaid : Prop := tyreSlowsUptoRow.holds Try.pinned (OpenSpec.upto tyreSlowsSpec)

/-- 'chicanelaw26.TyreMost', WHERE WHAT IT READS IS OF BULK AT MOST 1048576: true; the input reads as it did. -/
def tyreMostUptoRow : OpenClaim := { program := "ythlfckhjhagfaaa", sum := "02ea615cedd13e26c625e5edfda74180b4869a770d79cb6dfd661d8f466540cc", func := "chicane/chicanelaw26.TyreMost", spec := "tyreMost", inPlace := ["math/bits.Add64", "math/bits.Sub64", "internal/reflectlite.ValueOf", "(internal/reflectlite.Value).Len"], unfollowed := true, recurses := true, named := ["math/bits.divideError", "math/bits.overflowError"], apart := false, narrowed := true }
def TyreMostUptoSaid : Prop := tyreMostUptoRow.holds Try.pinned (OpenSpec.upto tyreMostSpec)

end Rows
end Go.Proofs.Ythlfckhjhagfaaa
