/-
  No cell of these rows narrows 'for every input' (looked for: loops, veiled, ifaces, maps, wideKeys, modest, calm, conditions, laid).
  DERIVED. THE GIVEN ROWS OF THIS SEAT. 3 by the template 'for every input the law returns true; each argument reads behind the call as it read before'; 0 by the template 'total and deterministic' (their statements: YtkcmgjbonmalmaaTotals.lean).
  GIVEN WITH THE SEED: the statements are not yours to turn. If you find one false, say at which input.
  Laid BY PROGRAM, IN A SANDBOX (cutbox-rows.mjs): the forced cells as the released guide's own fill.sh prints them over the translation 1289f48bc6a75e1f… (all of the seat's roots in one cut). By AI agents, Wed Nov 11 2026. No macro, syntax, notation, axiom, sorry.
-/
import Derived.Test.YtkcmgjbonmalmaaChecked
import GoSem.Claim
import GoSem.ClaimJoined
import GoSem.ClaimMapViews
import Derived.JoinedTies
import Derived.KernelRfl
namespace Go.Proofs.Ytkcmgjbonmalmaa
/- THE CELL 'sum', in the pinned program and in every row, IS THE sha256 OF THE DUMP (.gsa) THAT YtkcmgjbonmalmaaProg.lean LOADS. Nothing in Lean hashes anything: it is a label: what it is worth is what the hold of that sum in a sandbox is worth. -/
noncomputable def Try.pinned : Pinned := { name := "ytkcmgjbonmalmaa", sum := "1289f48bc6a75e1f680869347361a5062527daf7b4b34def846587496e9c8fa3", checked := Try.checked }
namespace Rows
def none {H : Type} : Left H := { results := [], args := [] }

/-- 'chicanelaw22.GearboxShift': WHATEVER THE INPUT: true; the input reads as it did. -/
def gearboxShiftSpec : ChangeSpec := { name := "gearboxShift", fn := fun _ => fun
  | [d1, d2, d3] => { results := [.lit (.bool true)], args := [d1, d2, d3] }
  | _ => none }
def gearboxShiftRow : OpenClaim := { program := "ytkcmgjbonmalmaa", sum := "1289f48bc6a75e1f680869347361a5062527daf7b4b34def846587496e9c8fa3", func := "chicane/chicanelaw22.GearboxShift", spec := "gearboxShift", apart := false }
def GearboxShiftSaid : Prop := gearboxShiftRow.holds Try.pinned (OpenSpec.ofChange gearboxShiftSpec)

/-- ITS FALSE NEIGHBOUR: 'it returns false'. Refute it at one input. -/
def gearboxShiftWrong : ChangeSpec := { name := "gearboxShift", fn := fun _ => fun
  | [d1, d2, d3] => { results := [.lit (.bool false)], args := [d1, d2, d3] }
  | _ => none }
def GearboxShiftWrongFalsely : Prop := gearboxShiftRow.holds Try.pinned (OpenSpec.ofChange gearboxShiftWrong)

/-- 'chicanelaw22.GearboxApart': WHATEVER THE INPUT: true; the input reads as it did. -/
def gearboxApartSpec : ChangeSpec := { name := "gearboxApart", fn := fun _ => fun
  | [d1, d2, d3] => { results := [.lit (.bool true)], args := [d1, d2, d3] }
  | _ => none }
def gearboxApartRow : OpenClaim := { program := "ytkcmgjbonmalmaa", sum := "1289f48bc6a75e1f680869347361a5062527daf7b4b34def846587496e9c8fa3", func := "chicane/chicanelaw22.GearboxApart", spec := "gearboxApart", apart := false }
def GearboxApartSaid : Prop := gearboxApartRow.holds Try.pinned (OpenSpec.ofChange gearboxApartSpec)

/-- ITS FALSE NEIGHBOUR: 'it returns false'. Refute it at one input. -/
def gearboxApartWrong : ChangeSpec := { name := "gearboxApart", fn := fun _ => fun
  | [d1, d2, d3] => { results := [.lit (.bool false)], args := [d1, d2, d3] }
  | _ => none }
def GearboxApartWrongFalsely : Prop := gearboxApartRow.holds Try.pinned (OpenSpec.ofChange gearboxApartWrong)

/-- 'chicanelaw22.GearboxThere': WHATEVER THE INPUT: true; the input reads as it did. -/
def gearboxThereSpec : ChangeSpec := { name := "gearboxThere", fn := fun _ => fun
  | [d1, d2, d3] => { results := [.lit (.bool true)], args := [d1, d2, d3] }
  | _ => none }
def gearboxThereRow : OpenClaim := { program := "ytkcmgjbonmalmaa", sum := "1289f48bc6a75e1f680869347361a5062527daf7b4b34def846587496e9c8fa3", func := "chicane/chicanelaw22.GearboxThere", spec := "gearboxThere", unfollowed := true, recurses := true, apart := false }
def GearboxThereSaid : Prop := gearboxThereRow.holds Try.pinned (OpenSpec.ofChange gearboxThereSpec)

/-- ITS FALSE NEIGHBOUR: 'it returns false'. Refute it at one input. -/
def gearboxThereWrong : ChangeSpec := { name := "gearboxThere", fn := fun _ => fun
  | [d1, d2, d3] => { results := [.lit (.bool false)], args := [d1, d2, d3] }
  | _ => none }
def GearboxThereWrongFalsely : Prop := gearboxThereRow.holds Try.pinned (OpenSpec.ofChange gearboxThereWrong)

/- THE SECOND FORM. 'bulk': how many values and letters a reading holds, each counted each time it is reached (what is shared counts as often as it is met; a slice's spare places count too). A statement '..UptoSaid' is the law's where the arguments, and the package variables that the reading takes, are together of bulk at most 1048576: NARROWER than '..Said'. Prove '..Said' where nothing that the law and all that it calls make is longer than what came in: it says more and counts as full. Else prove '..UptoSaid'. A law counts once. -/
mutual
def uptoBulk {H : Type} : DataW H → Nat
  | .lit (.string bytes) => bytes.length + 1
  | .lit _ => 1
  | .nil => 1
  | .ptr d => uptoBulk d + 1
  | .slice elems spare => uptoBulkAll elems + uptoBulkAll spare + 1
  | .agg parts => uptoBulkAll parts + 1
  | .iface _ d => uptoBulk d + 1
  | .map entries => uptoBulkEntries entries + 1
  | .held _ => 1
def uptoBulkAll {H : Type} : List (DataW H) → Nat
  | [] => 0
  | d :: r => uptoBulk d + uptoBulkAll r
def uptoBulkEntries {H : Type} : List (Lit × DataW H) → Nat
  | [] => 0
  | x :: r => uptoBulkEntry x + uptoBulkEntries r
def uptoBulkEntry {H : Type} : Lit × DataW H → Nat
  | (.string bytes, d) => bytes.length + uptoBulk d + 1
  | (_, d) => uptoBulk d + 1
 end
def uptoSmall : (H : Type) → List (DataW H) → Bool := fun _ ds => decide (uptoBulkAll ds ≤ 1048576)
def OpenSpec.upto (s : _root_.Go.ChangeSpec) : _root_.Go.OpenSpec := { _root_.Go.OpenSpec.ofChange s with cond := some uptoSmall }

/-- 'chicanelaw22.GearboxShift', WHERE WHAT IT READS IS OF BULK AT MOST 1048576: true; the input reads as it did. -/
def gearboxShiftUptoRow : OpenClaim := { program := "ytkcmgjbonmalmaa", sum := "1289f48bc6a75e1f680869347361a5062527daf7b4b34def846587496e9c8fa3", func := "chicane/chicanelaw22.GearboxShift", spec := "gearboxShift", apart := false, narrowed := true }
def GearboxShiftUptoSaid : Prop := gearboxShiftUptoRow.holds Try.pinned (OpenSpec.upto gearboxShiftSpec)

/-- 'chicanelaw22.GearboxApart', WHERE WHAT IT READS IS OF BULK AT MOST 1048576: true; the input reads as it did. -/
def gearboxApartUptoRow : OpenClaim := { program := "ytkcmgjbonmalmaa", sum := "1289f48bc6a75e1f680869347361a5062527daf7b4b34def846587496e9c8fa3", func := "chicane/chicanelaw22.GearboxApart", spec := "gearboxApart", apart := false, narrowed := true }
def GearboxApartUptoSaid : Prop := gearboxApartUptoRow.holds Try.pinned (OpenSpec.upto gearboxApartSpec)

/-- 'chicanelaw22.GearboxThere', WHERE WHAT IT READS IS OF BULK AT MOST 1048576: true; the input reads as it did. -/
def gearboxThereUptoRow : OpenClaim := { program := "ytkcmgjbonmalmaa", sum := "1289f48bc6a75e1f680869347361a5062527daf7b4b34def846587496e9c8fa3", func := "chicane/chicanelaw22.GearboxThere", spec := "gearboxThere", unfollowed := true, recurses := true, apart := false, narrowed := true }
def GearboxThereUptoSaid : Prop := gearboxThereUptoRow.holds Try.pinned (OpenSpec.upto gearboxThereSpec)

end Rows
end Go.Proofs.Ytkcmgjbonmalmaa
