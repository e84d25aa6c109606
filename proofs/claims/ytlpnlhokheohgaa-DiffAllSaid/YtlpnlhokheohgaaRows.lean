/-
  No cell of these rows narrows 'for every input' (looked for: loops, veiled, ifaces, maps, wideKeys, modest, calm, conditions, laid).
  DERIVED. THE GIVEN ROWS OF THIS SEAT. 3 by the template 'for every input the law returns true; each argument reads behind the call as it read before'; 0 by the template 'total and deterministic' (their statements: YtlpnlhokheohgaaTotals.lean).
  GIVEN WITH THE SEED: the statements are not yours to turn. If you find one false, say at which input.
  Laid BY PROGRAM, IN A SANDBOX (cutbox-rows.mjs): the forced cells as the released guide's own fill.sh prints them over the translation 63043a5285aca235… (all of the seat's roots in one cut). By AI agents, Wed Nov 11 2026. No macro, syntax, notation, axiom, sorry.
-/
import Derived.Test.YtlpnlhokheohgaaChecked
import GoSem.Claim
import GoSem.ClaimJoined
import GoSem.ClaimMapViews
import Derived.JoinedTies
import Derived.KernelRfl
namespace Go.Proofs.Ytlpnlhokheohgaa
/- THE CELL 'sum', in the pinned program and in every row, IS THE sha256 OF THE DUMP (.gsa) THAT YtlpnlhokheohgaaProg.lean LOADS. Nothing in Lean hashes anything: it is a label: what it is worth is what the hold of that sum in a sandbox is worth. -/
noncomputable def Try.pinned : Pinned := { name := "ytlpnlhokheohgaa", sum := "63043a5285aca2357839264183320272adf0a1de54b036136bcae8551769390e", checked := Try.checked }
namespace Rows
def none {H : Type} : Left H := { results := [], args := [] }

/-- 'chicanelaw23.DiffAll': WHATEVER THE INPUT: true; the input reads as it did. -/
def diffAllSpec : ChangeSpec := { name := "diffAll", fn := fun _ => fun
  | [d1, d2, d3] => { results := [.lit (.bool true)], args := [d1, d2, d3] }
  | _ => none }
def diffAllRow : OpenClaim := { program := "ytlpnlhokheohgaa", sum := "63043a5285aca2357839264183320272adf0a1de54b036136bcae8551769390e", func := "chicane/chicanelaw23.DiffAll", spec := "diffAll", inPlace := ["math/bits.Sub64", "math/bits.Add64"], unfollowed := true, recurses := true, named := ["math/bits.divideError", "math/bits.overflowError"], apart := false }
def DiffAllSaid : Prop := diffAllRow.holds Try.pinned (OpenSpec.ofChange diffAllSpec)

/-- ITS FALSE NEIGHBOUR: 'it returns false'. Refute it at one input. -/
def diffAllWrong : ChangeSpec := { name := "diffAll", fn := fun _ => fun
  | [d1, d2, d3] => { results := [.lit (.bool false)], args := [d1, d2, d3] }
  | _ => none }
def DiffAllWrongFalsely : Prop := diffAllRow.holds Try.pinned (OpenSpec.ofChange diffAllWrong)

/-- 'chicanelaw23.DiffSlows': WHATEVER THE INPUT: true; the input reads as it did. -/
def diffSlowsSpec : ChangeSpec := { name := "diffSlows", fn := fun _ => fun
  | [d1, d2, d3] => { results := [.lit (.bool true)], args := [d1, d2, d3] }
  | _ => none }
def diffSlowsRow : OpenClaim := { program := "ytlpnlhokheohgaa", sum := "63043a5285aca2357839264183320272adf0a1de54b036136bcae8551769390e", func := "chicane/chicanelaw23.DiffSlows", spec := "diffSlows", inPlace := ["math/bits.Sub64", "math/bits.Add64"], unfollowed := true, recurses := true, named := ["math/bits.divideError", "math/bits.overflowError"], apart := false }
def DiffSlowsSaid : Prop := diffSlowsRow.holds Try.pinned (OpenSpec.ofChange diffSlowsSpec)

/-- ITS FALSE NEIGHBOUR: 'it returns false'. Refute it at one input. -/
def diffSlowsWrong : ChangeSpec := { name := "diffSlows", fn := fun _ => fun
  | [d1, d2, d3] => { results := [.lit (.bool false)], args := [d1, d2, d3] }
  | _ => none }
def DiffSlowsWrongFalsely : Prop := diffSlowsRow.holds Try.pinned (OpenSpec.ofChange diffSlowsWrong)

/-- 'chicanelaw23.DiffHolds': WHATEVER THE INPUT: true; the input reads as it did. -/
def diffHoldsSpec : ChangeSpec := { name := "diffHolds", fn := fun _ => fun
  | [d1, d2] => { results := [.lit (.bool true)], args := [d1, d2] }
  | _ => none }
def diffHoldsRow : OpenClaim := { program := "ytlpnlhokheohgaa", sum := "63043a5285aca2357839264183320272adf0a1de54b036136bcae8551769390e", func := "chicane/chicanelaw23.DiffHolds", spec := "diffHolds", inPlace := ["math/bits.Sub64", "math/bits.Add64"], unfollowed := true, recurses := true, named := ["math/bits.divideError", "math/bits.overflowError"], apart := false }
def DiffHoldsSaid : Prop := diffHoldsRow.holds Try.pinned (OpenSpec.ofChange diffHoldsSpec)

/-- ITS FALSE NEIGHBOUR: 'it returns false'. Refute it at one input. -/
def diffHoldsWrong : ChangeSpec := { name := "diffHolds", fn := fun _ => fun
  | [d1, d2] => { results := [.lit (.bool false)], args := [d1, d2] }
  | _ => none }
def DiffHoldsWrongFalsely : Prop := diffHoldsRow.holds Try.pinned (OpenSpec.ofChange diffHoldsWrong)

/- THE SECOND FORM. 'bulk': how many values and letters a reading holds, each counted each time it is reached (what is shared counts as often as it is met; a slice's spare places count too). A statement '..UptoSaid' is the law's where the arguments, and the package variables that the reading takes, are together of bulk at most 1048576: NARROWER than '..Said'. Prove '..Said' where nothing that the law and all that it calls make is longer than what came in: it says more and counts as full. Else prove '..UptoSaid'. A law counts once. -/
mutual
def uptoBulk {H : Type} : DataW H → Nat
  | .lit (.string bytes) => bytes.length + 1
  | .lit _ => 1
  | .nil => 1
  | .ptr d => uptoBulk d + 1
  | .slice elems spare => uptoBulkAll elems + uptoBulkAll spare + 1
  | .agg parts => uptoBulkAll parts + 1
  | .iface _ d => uptoBulk d + 1
  | .map entries => uptoBulkEntries entries + 1
  | .held _ => 1
def uptoBulkAll {H : Type} : List (DataW H) → Nat
  | [] => 0
  | d :: r => uptoBulk d + uptoBulkAll r
def uptoBulkEntries {H : Type} : List (Lit × DataW H) → Nat
  | [] => 0
  | x :: r => uptoBulkEntry x + uptoBulkEntries r
def uptoBulkEntry {H : Type} : Lit × DataW H → Nat
  | (.string bytes, d) => bytes.length + uptoBulk d + 1
  | (_, d) => uptoBulk d + 1
 end
def uptoSmall : (H : Type) → List (DataW H) → Bool := fun _ ds => decide (uptoBulkAll ds ≤ 1048576)
def OpenSpec.upto (s : _root_.Go.ChangeSpec) : _root_.Go.OpenSpec := { _root_.Go.OpenSpec.ofChange s with cond := some uptoSmall }

/-- 'chicanelaw23.DiffAll', WHERE WHAT IT READS IS OF BULK AT MOST 1048576: true; the input reads as it did. -/
def diffAllUptoRow : OpenClaim := { program := "ytlpnlhokheohgaa", sum := "63043a5285aca2357839264183320272adf0a1de54b036136bcae8551769390e", func := "chicane/chicanelaw23.DiffAll", spec := "diffAll", inPlace := ["math/bits.Sub64", "math/bits.Add64"], unfollowed := true, recurses := true, named := ["math/bits.divideError", "math/bits.overflowError"], apart := false, narrowed := true }
def DiffAllUptoSaid : Prop := diffAllUptoRow.holds Try.pinned (OpenSpec.upto diffAllSpec)

/-- 'chicanelaw23.DiffSlows', WHERE WHAT IT READS IS OF BULK AT MOST 1048576: true; the input reads as it did. -/
def diffSlowsUptoRow : OpenClaim := { program := "ytlpnlhokheohgaa", sum := "63043a5285aca2357839264183320272adf0a1de54b036136bcae8551769390e", func := "chicane/chicanelaw23.DiffSlows", spec := "diffSlows", inPlace := ["math/bits.Sub64", "math/bits.Add64"], unfollowed := true, recurses := true, named := ["math/bits.divideError", "math/bits.overflowError"], apart := false, narrowed := true }
def DiffSlowsUptoSaid : Prop := diffSlowsUptoRow.holds Try.pinned (OpenSpec.upto diffSlowsSpec)

/-- 'chicanelaw23.DiffHolds', WHERE WHAT IT READS IS OF BULK AT MOST 1048576: true; the input reads as it did. -/
def diffHoldsUptoRow : OpenClaim := { program := "ytlpnlhokheohgaa", sum := "63043a5285aca2357839264183320272adf0a1de54b036136bcae8551769390e", func := "chicane/chicanelaw23.DiffHolds", spec := "diffHolds", inPlace := ["math/bits.Sub64", "math/bits.Add64"], unfollowed := true, recurses := true, named := ["math/bits.divideError", "math/bits.overflowError"], apart := false, narrowed := true }
def DiffHoldsUptoSaid : Prop := diffHoldsUptoRow.holds Try.pinned (OpenSpec.upto diffHoldsSpec)

end Rows
end Go.Proofs.Ytlpnlhokheohgaa
