/-
  No cell of these rows narrows 'for every input' (looked for: loops, veiled, ifaces, maps, wideKeys, modest, calm, conditions, laid).
  DERIVED. THE GIVEN ROWS OF THIS SEAT. 3 by the template 'for every input the law returns true; each argument reads behind the call as it read before'; 0 by the template 'total and deterministic' (their statements: YtiikkepnpidilaaTotals.lean).
  GIVEN WITH THE SEED: the statements are not yours to turn. If you find one false, say at which input.
  Laid BY PROGRAM, IN A SANDBOX (cutbox-rows.mjs): the forced cells as the released guide's own fill.sh prints them over the translation cb0642ff7b612af8… (all of the seat's roots in one cut). By AI agents, Wed Nov 11 2026. No macro, syntax, notation, axiom, sorry.
-/
import Derived.Test.YtiikkepnpidilaaChecked
import GoSem.Claim
import GoSem.ClaimJoined
import GoSem.ClaimMapViews
import Derived.JoinedTies
import Derived.KernelRfl
namespace Go.Proofs.Ytiikkepnpidilaa
/- THE CELL 'sum', in the pinned program and in every row, IS THE sha256 OF THE DUMP (.gsa) THAT YtiikkepnpidilaaProg.lean LOADS. Nothing in Lean hashes anything: it is a label: what it is worth is what the hold of that sum in a sandbox is worth. -/
noncomputable def Try.pinned : Pinned := { name := "ytiikkepnpidilaa", sum := "cb0642ff7b612af8e97b45b4df80c6577cbd5b1e0e3e3a42597314f0c32dccff", checked := Try.checked }
namespace Rows
def none {H : Type} : Left H := { results := [], args := [] }

/-- 'chicanelaw24.BrakeSlows': WHATEVER THE INPUT: true; the input reads as it did. -/
def brakeSlowsSpec : ChangeSpec := { name := "brakeSlows", fn := fun _ => fun
  | [d] => { results := [.lit (.bool true)], args := [d] }
  | _ => none }
def brakeSlowsRow : OpenClaim := { program := "ytiikkepnpidilaa", sum := "cb0642ff7b612af8e97b45b4df80c6577cbd5b1e0e3e3a42597314f0c32dccff", func := "chicane/chicanelaw24.BrakeSlows", spec := "brakeSlows", inPlace := ["math/bits.Sub64", "math/bits.Add64"], unfollowed := true, recurses := true, named := ["math/bits.divideError", "math/bits.overflowError"], apart := false }
def BrakeSlowsSaid : Prop := brakeSlowsRow.holds Try.pinned (OpenSpec.ofChange brakeSlowsSpec)

/-- ITS FALSE NEIGHBOUR: 'it returns false'. Refute it at one input. -/
def brakeSlowsWrong : ChangeSpec := { name := "brakeSlows", fn := fun _ => fun
  | [d] => { results := [.lit (.bool false)], args := [d] }
  | _ => none }
def BrakeSlowsWrongFalsely : Prop := brakeSlowsRow.holds Try.pinned (OpenSpec.ofChange brakeSlowsWrong)

/-- 'chicanelaw24.BrakeWhirl': WHATEVER THE INPUT: true; the input reads as it did. -/
def brakeWhirlSpec : ChangeSpec := { name := "brakeWhirl", fn := fun _ => fun
  | [d1, d2, d3] => { results := [.lit (.bool true)], args := [d1, d2, d3] }
  | _ => none }
def brakeWhirlRow : OpenClaim := { program := "ytiikkepnpidilaa", sum := "cb0642ff7b612af8e97b45b4df80c6577cbd5b1e0e3e3a42597314f0c32dccff", func := "chicane/chicanelaw24.BrakeWhirl", spec := "brakeWhirl", inPlace := ["math/bits.Add64", "math/bits.Sub64"], unfollowed := true, recurses := true, named := ["math/bits.divideError", "math/bits.overflowError"], apart := false }
def BrakeWhirlSaid : Prop := brakeWhirlRow.holds Try.pinned (OpenSpec.ofChange brakeWhirlSpec)

/-- ITS FALSE NEIGHBOUR: 'it returns false'. Refute it at one input. -/
def brakeWhirlWrong : ChangeSpec := { name := "brakeWhirl", fn := fun _ => fun
  | [d1, d2, d3] => { results := [.lit (.bool false)], args := [d1, d2, d3] }
  | _ => none }
def BrakeWhirlWrongFalsely : Prop := brakeWhirlRow.holds Try.pinned (OpenSpec.ofChange brakeWhirlWrong)

/-- 'chicanelaw24.BrakeFits': WHATEVER THE INPUT: true; the input reads as it did. -/
def brakeFitsSpec : ChangeSpec := { name := "brakeFits", fn := fun _ => fun
  | [d1, d2, d3] => { results := [.lit (.bool true)], args := [d1, d2, d3] }
  | _ => none }
def brakeFitsRow : OpenClaim := { program := "ytiikkepnpidilaa", sum := "cb0642ff7b612af8e97b45b4df80c6577cbd5b1e0e3e3a42597314f0c32dccff", func := "chicane/chicanelaw24.BrakeFits", spec := "brakeFits", inPlace := ["math/bits.Sub64", "math/bits.Add64"], unfollowed := true, recurses := true, named := ["math/bits.divideError", "math/bits.overflowError"], apart := false }
def BrakeFitsSaid : Prop := brakeFitsRow.holds Try.pinned (OpenSpec.ofChange brakeFitsSpec)

/-- ITS FALSE NEIGHBOUR: 'it returns false'. Refute it at one input. -/
def brakeFitsWrong : ChangeSpec := { name := "brakeFits", fn := fun _ => fun
  | [d1, d2, d3] => { results := [.lit (.bool false)], args := [d1, d2, d3] }
  | _ => none }
def BrakeFitsWrongFalsely : Prop := brakeFitsRow.holds Try.pinned (OpenSpec.ofChange brakeFitsWrong)

/- THE SECOND FORM. 'bulk': how many values and letters a reading holds, each counted each time it is reached (what is shared counts as often as it is met; a slice's spare places count too). A statement '..UptoSaid' is the law's where the arguments, and the package variables that the reading takes, are together of bulk at most 1048576: NARROWER than '..Said'. Prove '..Said' where nothing that the law and all that it calls make is longer than what came in: it says more and counts as full. Else prove '..UptoSaid'. A law counts once. -/
mutual
def uptoBulk {H : Type} : DataW H → Nat
  | .lit (.string bytes) => bytes.length + 1
  | .lit _ => 1
  | .nil => 1
  | .ptr d => uptoBulk d + 1
  | .slice elems spare => uptoBulkAll elems + uptoBulkAll spare + 1
  | .agg parts => uptoBulkAll parts + 1
  | .iface _ d => uptoBulk d + 1
  | .map entries => uptoBulkEntries entries + 1
  | .held _ => 1
def uptoBulkAll {H : Type} : List (DataW H) → Nat
  | [] => 0
  | d :: r => uptoBulk d + uptoBulkAll r
def uptoBulkEntries {H : Type} : List (Lit × DataW H) → Nat
  | [] => 0
  | x :: r => uptoBulkEntry x + uptoBulkEntries r
def uptoBulkEntry {H : Type} : Lit × DataW H → Nat
  | (.string bytes, d) => bytes.length + uptoBulk d + 1
  | (_, d) => uptoBulk d + 1
 end
def uptoSmall : (H : Type) → List (DataW H) → Bool := fun _ ds => decide (uptoBulkAll ds ≤ 1048576)
def OpenSpec.upto (s : _root_.Go.ChangeSpec) : _root_.Go.OpenSpec := { _root_.Go.OpenSpec.ofChange s with cond := some uptoSmall }

/-- 'chicanelaw24.BrakeSlows', WHERE WHAT IT READS IS OF BULK AT MOST 1048576: true; the input reads as it did. -/
def brakeSlowsUptoRow : OpenClaim := { program := "ytiikkepnpidilaa", sum := "cb0642ff7b612af8e97b45b4df80c6577cbd5b1e0e3e3a42597314f0c32dccff", func := "chicane/chicanelaw24.BrakeSlows", spec := "brakeSlows", inPlace := ["math/bits.Sub64", "math/bits.Add64"], unfollowed := true, recurses := true, named := ["math/bits.divideError", "math/bits.overflowError"], apart := false, narrowed := true }
def BrakeSlowsUptoSaid : Prop := brakeSlowsUptoRow.holds Try.pinned (OpenSpec.upto brakeSlowsSpec)

/-- 'chicanelaw24.BrakeWhirl', WHERE WHAT IT READS IS OF BULK AT MOST 1048576: true; the input reads as it did. -/
def brakeWhirlUptoRow : OpenClaim := { program := "ytiikkepnpidilaa", sum := "cb0642ff7b612af8e97b45b4df80c6577cbd5b1e0e3e3a42597314f0c32dccff", func := "chicane/chicanelaw24.BrakeWhirl", spec := "brakeWhirl", inPlace := ["math/bits.Add64", "math/bits.Sub64"], unfollowed := true, recurses := true, named := ["math/bits.divideError", "math/bits.overflowError"], apart := false, narrowed := true }
def BrakeWhirlUptoSaid : Prop := brakeWhirlUptoRow.holds Try.pinned (OpenSpec.upto brakeWhirlSpec)

/-- 'chicanelaw24.BrakeFits', WHERE WHAT IT READS IS OF BULK AT MOST 1048576: true; the input reads as it did. -/
def brakeFitsUptoRow : OpenClaim := { program := "ytiikkepnpidilaa", sum := "cb0642ff7b612af8e97b45b4df80c6577cbd5b1e0e3e3a42597314f0c32dccff", func := "chicane/chicanelaw24.BrakeFits", spec := "brakeFits", inPlace := ["math/bits.Sub64", "math/bits.Add64"], unfollowed := true, recurses := true, named := ["math/bits.divideError", "math/bits.overflowError"], apart := false, narrowed := true }
def BrakeFitsUptoSaid : Prop := brakeFitsUptoRow.holds Try.pinned (OpenSpec.upto brakeFitsSpec)

end Rows
end Go.Proofs.Ytiikkepnpidilaa
