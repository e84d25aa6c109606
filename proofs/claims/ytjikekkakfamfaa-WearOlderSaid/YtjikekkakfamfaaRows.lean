/-
  No cell of these rows narrows 'for every input' (looked for: loops, veiled, ifaces, maps, wideKeys, modest, calm, conditions, laid).
  DERIVED. THE GIVEN ROWS OF THIS SEAT. 4 by the template 'for every input the law returns true; each argument reads behind the call as it read before'; 0 by the template 'total and deterministic' (their statements: YtjikekkakfamfaaTotals.lean).
  GIVEN WITH THE SEED: the statements are not yours to turn. If you find one false, say at which input.
  Laid BY PROGRAM, IN A SANDBOX (cutbox-rows.mjs): the forced cells as the released guide's own fill.sh prints them over the translation 7096a2b6654cc424… (all of the seat's roots in one cut). By AI agents, Wed Nov 11 2026. No macro, syntax, notation, axiom, sorry.
-/
import Derived.Test.YtjikekkakfamfaaChecked
import GoSem.Claim
import GoSem.ClaimJoined
import GoSem.ClaimMapViews
import Derived.JoinedTies
import Derived.KernelRfl
namespace Go.Proofs.Ytjikekkakfamfaa
/- THE CELL 'sum', in the pinned program and in every row, IS THE sha256 OF THE DUMP (.gsa) THAT YtjikekkakfamfaaProg.lean LOADS. Nothing in Lean hashes anything: it is a label: what it is worth is what the hold of that sum in a sandbox is worth. -/
noncomputable def Try.pinned : Pinned := { name := "ytjikekkakfamfaa", sum := "7096a2b6654cc4241ef4d3b700f7aed880bb2e9eb886af07b0ddc2c7937d1327", checked := Try.checked }
namespace Rows
def none {H : Type} : Left H := { results := [], args := [] }

/-- 'chicanelaw46.WearTurn': WHATEVER THE INPUT: true; the input reads as it did. -/
def wearTurnSpec : ChangeSpec := { name := "wearTurn", fn := fun _ => fun
  | [d1, d2, d3] => { results := [.lit (.bool true)], args := [d1, d2, d3] }
  | _ => none }
def wearTurnRow : OpenClaim := { program := "ytjikekkakfamfaa", sum := "7096a2b6654cc4241ef4d3b700f7aed880bb2e9eb886af07b0ddc2c7937d1327", func := "chicane/chicanelaw46.WearTurn", spec := "wearTurn", inPlace := ["math/bits.Add64", "math/bits.Sub64", "internal/reflectlite.ValueOf", "(internal/reflectlite.Value).Len"], unfollowed := true, recurses := true, named := ["math/bits.divideError", "math/bits.overflowError"], apart := false }
def WearTurnSaid : Prop := wearTurnRow.holds Try.pinned (OpenSpec.ofChange wearTurnSpec)

/-- ITS FALSE NEIGHBOUR: 'it returns false'. Refute it at one input. -/
def wearTurnWrong : ChangeSpec := { name := "wearTurn", fn := fun _ => fun
  | [d1, d2, d3] => { results := [.lit (.bool false)], args := [d1, d2, d3] }
  | _ => none }
def WearTurnWrongFalsely : Prop := wearTurnRow.holds Try.pinned (OpenSpec.ofChange wearTurnWrong)

/-- 'chicanelaw46.WearWork': WHATEVER THE INPUT: true; the input reads as it did. -/
def wearWorkSpec : ChangeSpec := { name := "wearWork", fn := fun _ => fun
  | [d1, d2, d3] => { results := [.lit (.bool true)], args := [d1, d2, d3] }
  | _ => none }
def wearWorkRow : OpenClaim := { program := "ytjikekkakfamfaa", sum := "7096a2b6654cc4241ef4d3b700f7aed880bb2e9eb886af07b0ddc2c7937d1327", func := "chicane/chicanelaw46.WearWork", spec := "wearWork", inPlace := ["math/bits.Add64", "math/bits.Sub64", "internal/reflectlite.ValueOf", "(internal/reflectlite.Value).Len"], unfollowed := true, recurses := true, named := ["math/bits.divideError", "math/bits.overflowError"], apart := false }
def WearWorkSaid : Prop := wearWorkRow.holds Try.pinned (OpenSpec.ofChange wearWorkSpec)

/-- ITS FALSE NEIGHBOUR: 'it returns false'. Refute it at one input. -/
def wearWorkWrong : ChangeSpec := { name := "wearWork", fn := fun _ => fun
  | [d1, d2, d3] => { results := [.lit (.bool false)], args := [d1, d2, d3] }
  | _ => none }
def WearWorkWrongFalsely : Prop := wearWorkRow.holds Try.pinned (OpenSpec.ofChange wearWorkWrong)

/-- 'chicanelaw46.WearOlder': WHATEVER THE INPUT: true; the input reads as it did. -/
def wearOlderSpec : ChangeSpec := { name := "wearOlder", fn := fun _ => fun
  | [d1, d2, d3] => { results := [.lit (.bool true)], args := [d1, d2, d3] }
  | _ => none }
def wearOlderRow : OpenClaim := { program := "ytjikekkakfamfaa", sum := "7096a2b6654cc4241ef4d3b700f7aed880bb2e9eb886af07b0ddc2c7937d1327", func := "chicane/chicanelaw46.WearOlder", spec := "wearOlder", inPlace := ["math/bits.Add64", "math/bits.Sub64", "internal/reflectlite.ValueOf", "(internal/reflectlite.Value).Len"], unfollowed := true, recurses := true, named := ["math/bits.divideError", "math/bits.overflowError"], apart := false }
def WearOlderSaid : Prop := wearOlderRow.holds Try.pinned (OpenSpec.ofChange wearOlderSpec)

/-- ITS FALSE NEIGHBOUR: 'it returns false'. Refute it at one input. -/
def wearOlderWrong : ChangeSpec := { name := "wearOlder", fn := fun _ => fun
  | [d1, d2, d3] => { results := [.lit (.bool false)], args := [d1, d2, d3] }
  | _ => none }
def WearOlderWrongFalsely : Prop := wearOlderRow.holds Try.pinned (OpenSpec.ofChange wearOlderWrong)

/-- 'chicanelaw46.WearCools': WHATEVER THE INPUT: true; the input reads as it did. -/
def wearCoolsSpec : ChangeSpec := { name := "wearCools", fn := fun _ => fun
  | [d1, d2, d3] => { results := [.lit (.bool true)], args := [d1, d2, d3] }
  | _ => none }
def wearCoolsRow : OpenClaim := { program := "ytjikekkakfamfaa", sum := "7096a2b6654cc4241ef4d3b700f7aed880bb2e9eb886af07b0ddc2c7937d1327", func := "chicane/chicanelaw46.WearCools", spec := "wearCools", inPlace := ["math/bits.Add64", "math/bits.Sub64", "internal/reflectlite.ValueOf", "(internal/reflectlite.Value).Len"], unfollowed := true, recurses := true, named := ["math/bits.divideError", "math/bits.overflowError"], apart := false }
def WearCoolsSaid : Prop := wearCoolsRow.holds Try.pinned (OpenSpec.ofChange wearCoolsSpec)

/-- ITS FALSE NEIGHBOUR: 'it returns false'. Refute it at one input. -/
def wearCoolsWrong : ChangeSpec := { name := "wearCools", fn := fun _ => fun
  | [d1, d2, d3] => { results := [.lit (.bool false)], args := [d1, d2, d3] }
  | _ => none }
def WearCoolsWrongFalsely : Prop := wearCoolsRow.holds Try.pinned (OpenSpec.ofChange wearCoolsWrong)

/- THE SECOND FORM. 'bulk': how many values and letters a reading holds, each counted each time it is reached (what is shared counts as often as it is met; a slice's spare places count too). A statement '..UptoSaid' is the law's where the arguments, and the package variables that the reading takes, are together of bulk at most 1048576: NARROWER than '..Said'. Prove '..Said' where nothing that the law and all that it calls make is longer than what came in: it says more and counts as full. Else prove '..UptoSaid'. A law counts once. -/
mutual
def uptoBulk {H : Type} : DataW H → Nat
  | .lit (.string bytes) => bytes.length + 1
  | .lit _ => 1
  | .nil => 1
  | .ptr d => uptoBulk d + 1
  | .slice elems spare => uptoBulkAll elems + uptoBulkAll spare + 1
  | .agg parts => uptoBulkAll parts + 1
  | .iface _ d => uptoBulk d + 1
  | .map entries => uptoBulkEntries entries + 1
  | .held _ => 1
def uptoBulkAll {H : Type} : List (DataW H) → Nat
  | [] => 0
  | d :: r => uptoBulk d + uptoBulkAll r
def uptoBulkEntries {H : Type} : List (Lit × DataW H) → Nat
  | [] => 0
  | x :: r => uptoBulkEntry x + uptoBulkEntries r
def uptoBulkEntry {H : Type} : Lit × DataW H → Nat
  | (.string bytes, d) => bytes.length + uptoBulk d + 1
  | (_, d) => uptoBulk d + 1
 end
def uptoSmall : (H : Type) → List (DataW H) → Bool := fun _ ds => decide (uptoBulkAll ds ≤ 1048576)
def OpenSpec.upto (s : _root_.Go.ChangeSpec) : _root_.Go.OpenSpec := { _root_.Go.OpenSpec.ofChange s with cond := some uptoSmall }

/-- 'chicanelaw46.WearTurn', WHERE WHAT IT READS IS OF BULK AT MOST 1048576: true; the input reads as it did. -/
def wearTurnUptoRow : OpenClaim := { program := "ytjikekkakfamfaa", sum := "7096a2b6654cc4241ef4d3b700f7aed880bb2e9eb886af07b0ddc2c7937d1327", func := "chicane/chicanelaw46.WearTurn", spec := "wearTurn", inPlace := ["math/bits.Add64", "math/bits.Sub64", "internal/reflectlite.ValueOf", "(internal/reflectlite.Value).Len"], unfollowed := true, recurses := true, named := ["math/bits.divideError", "math/bits.overflowError"], apart := false, narrowed := true }
def WearTurnUptoSaid : Prop := wearTurnUptoRow.holds Try.pinned (OpenSpec.upto wearTurnSpec)

/-- 'chicanelaw46.WearWork', WHERE WHAT IT READS IS OF BULK AT MOST 1048576: true; the input reads as it did. -/
def wearWorkUptoRow : OpenClaim := { program := "ytjikekkakfamfaa", sum := "7096a2b6654cc4241ef4d3b700f7aed880bb2e9eb886af07b0ddc2c7937d1327", func := "chicane/chicanelaw46.WearWork", spec := "wearWork", inPlace := ["math/bits.Add64", "math/bits.Sub64", "internal/reflectlite.ValueOf", "(internal/reflectlite.Value).Len"], unfollowed := true, recurses := true, named := ["math/bits.divideError", "math/bits.overflowError"], apart := false, narrowed := true }
def WearWorkUptoSaid : Prop := wearWorkUptoRow.holds Try.pinned (OpenSpec.upto wearWorkSpec)

/-- 'chicanelaw46.WearOlder', WHERE WHAT IT READS IS OF BULK AT MOST 1048576: true; the input reads as it did. -/
def wearOlderUptoRow : OpenClaim := { program := "ytjikekkakfamfaa", sum := "7096a2b6654cc4241ef4d3b700f7aed880bb2e9eb886af07b0ddc2c7937d1327", func := "chicane/chicanelaw46.WearOlder", spec := "wearOlder", inPlace := ["math/bits.Add64", "math/bits.Sub64", "internal/reflectlite.ValueOf", "(internal/reflectlite.Value).Len"], unfollowed := true, recurses := true, named := ["math/bits.divideError", "math/bits.overflowError"], apart := false, narrowed := true }
def WearOlderUptoSaid : Prop := wearOlderUptoRow.holds Try.pinned (OpenSpec.upto wearOlderSpec)

/-- 'chicanelaw46.WearCools', WHERE WHAT IT READS IS OF BULK AT MOST 1048576: true; the input reads as it did. -/
def wearCoolsUptoRow : OpenClaim := { program := "ytjikekkakfamfaa", sum := "7096a2b6654cc4241ef4d3b700f7aed880bb2e9eb886af07b0ddc2c7937d1327", func := "chicane/chicanelaw46.WearCools", spec := "wearCools", inPlace := ["math/bits.Add64", "math/bits.Sub64", "internal/reflectlite.ValueOf", "(internal/reflectlite.Value).Len"], unfollowed := true, recurses := true, named := ["math/bits.divideError", "math/bits.overflowError"], apart := false, narrowed := true }
def WearCoolsUptoSaid : Prop := wearCoolsUptoRow.holds Try.pinned (OpenSpec.upto wearCoolsSpec)

end Rows
end Go.Proofs.Ytjikekkakfamfaa
