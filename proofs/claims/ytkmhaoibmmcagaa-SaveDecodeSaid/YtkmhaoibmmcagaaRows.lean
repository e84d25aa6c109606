/-
  No cell of these rows narrows 'for every input' (looked for: loops, veiled, ifaces, maps, wideKeys, modest, calm, conditions, laid).
  DERIVED. THE GIVEN ROWS OF THIS SEAT. 4 by the template 'for every input the law returns true; each argument reads behind the call as it read before'; 0 by the template 'total and deterministic' (their statements: YtkmhaoibmmcagaaTotals.lean).
  GIVEN WITH THE SEED: the statements are not yours to turn. If you find one false, say at which input.
  Laid BY PROGRAM, IN A SANDBOX (cutbox-rows.mjs): the forced cells as the released guide's own fill.sh prints them over the translation 8dc32ade76908f12… (all of the seat's roots in one cut). By AI agents, Wed Nov 11 2026. No macro, syntax, notation, axiom, sorry.
-/
import Derived.Test.YtkmhaoibmmcagaaChecked
import GoSem.Claim
import GoSem.ClaimJoined
import GoSem.ClaimMapViews
import Derived.JoinedTies
import Derived.KernelRfl
namespace Go.Proofs.Ytkmhaoibmmcagaa
/- THE CELL 'sum', in the pinned program and in every row, IS THE sha256 OF THE DUMP (.gsa) THAT YtkmhaoibmmcagaaProg.lean LOADS. Nothing in Lean hashes anything: it is a label: what it is worth is what the hold of that sum in a sandbox is worth. -/
noncomputable def Try.pinned : Pinned := { name := "ytkmhaoibmmcagaa", sum := "8dc32ade76908f1259c5371d38520dea70fd3e4061dd24a6ce4472dde600ffe7", checked := Try.checked }
namespace Rows
def none {H : Type} : Left H := { results := [], args := [] }

/-- 'chicanelaw33.SaveDecode': WHATEVER THE INPUT: true; the input reads as it did. -/
def saveDecodeSpec : ChangeSpec := { name := "saveDecode", fn := fun _ => fun
  | [d] => { results := [.lit (.bool true)], args := [d] }
  | _ => none }
def saveDecodeRow : OpenClaim := { program := "ytkmhaoibmmcagaa", sum := "8dc32ade76908f1259c5371d38520dea70fd3e4061dd24a6ce4472dde600ffe7", func := "chicane/chicanelaw33.SaveDecode", spec := "saveDecode", apart := false }
def SaveDecodeSaid : Prop := saveDecodeRow.holds Try.pinned (OpenSpec.ofChange saveDecodeSpec)

/-- ITS FALSE NEIGHBOUR: 'it returns false'. Refute it at one input. -/
def saveDecodeWrong : ChangeSpec := { name := "saveDecode", fn := fun _ => fun
  | [d] => { results := [.lit (.bool false)], args := [d] }
  | _ => none }
def SaveDecodeWrongFalsely : Prop := saveDecodeRow.holds Try.pinned (OpenSpec.ofChange saveDecodeWrong)

/-- 'chicanelaw33.SaveBack': WHATEVER THE INPUT: true; the input reads as it did. -/
def saveBackSpec : ChangeSpec := { name := "saveBack", fn := fun _ => fun
  | [d] => { results := [.lit (.bool true)], args := [d] }
  | _ => none }
def saveBackRow : OpenClaim := { program := "ytkmhaoibmmcagaa", sum := "8dc32ade76908f1259c5371d38520dea70fd3e4061dd24a6ce4472dde600ffe7", func := "chicane/chicanelaw33.SaveBack", spec := "saveBack", apart := false }
def SaveBackSaid : Prop := saveBackRow.holds Try.pinned (OpenSpec.ofChange saveBackSpec)

/-- ITS FALSE NEIGHBOUR: 'it returns false'. Refute it at one input. -/
def saveBackWrong : ChangeSpec := { name := "saveBack", fn := fun _ => fun
  | [d] => { results := [.lit (.bool false)], args := [d] }
  | _ => none }
def SaveBackWrongFalsely : Prop := saveBackRow.holds Try.pinned (OpenSpec.ofChange saveBackWrong)

/-- 'chicanelaw33.SaveOne': WHATEVER THE INPUT: true; the input reads as it did. -/
def saveOneSpec : ChangeSpec := { name := "saveOne", fn := fun _ => fun
  | [d1, d2] => { results := [.lit (.bool true)], args := [d1, d2] }
  | _ => none }
def saveOneRow : OpenClaim := { program := "ytkmhaoibmmcagaa", sum := "8dc32ade76908f1259c5371d38520dea70fd3e4061dd24a6ce4472dde600ffe7", func := "chicane/chicanelaw33.SaveOne", spec := "saveOne", apart := false }
def SaveOneSaid : Prop := saveOneRow.holds Try.pinned (OpenSpec.ofChange saveOneSpec)

/-- ITS FALSE NEIGHBOUR: 'it returns false'. Refute it at one input. -/
def saveOneWrong : ChangeSpec := { name := "saveOne", fn := fun _ => fun
  | [d1, d2] => { results := [.lit (.bool false)], args := [d1, d2] }
  | _ => none }
def SaveOneWrongFalsely : Prop := saveOneRow.holds Try.pinned (OpenSpec.ofChange saveOneWrong)

/-- 'chicanelaw33.SaveEncode': WHATEVER THE INPUT: true; the input reads as it did. -/
def saveEncodeSpec : ChangeSpec := { name := "saveEncode", fn := fun _ => fun
  | [d] => { results := [.lit (.bool true)], args := [d] }
  | _ => none }
def saveEncodeRow : OpenClaim := { program := "ytkmhaoibmmcagaa", sum := "8dc32ade76908f1259c5371d38520dea70fd3e4061dd24a6ce4472dde600ffe7", func := "chicane/chicanelaw33.SaveEncode", spec := "saveEncode", apart := false }
def SaveEncodeSaid : Prop := saveEncodeRow.holds Try.pinned (OpenSpec.ofChange saveEncodeSpec)

/-- ITS FALSE NEIGHBOUR: 'it returns false'. Refute it at one input. -/
def saveEncodeWrong : ChangeSpec := { name := "saveEncode", fn := fun _ => fun
  | [d] => { results := [.lit (.bool false)], args := [d] }
  | _ => none }
def SaveEncodeWrongFalsely : Prop := saveEncodeRow.holds Try.pinned (OpenSpec.ofChange saveEncodeWrong)

/- THE SECOND FORM. 'bulk': how many values and letters a reading holds, each counted each time it is reached (what is shared counts as often as it is met; a slice's spare places count too). A statement '..UptoSaid' is the law's where the arguments, and the package variables that the reading takes, are together of bulk at most 1048576: NARROWER than '..Said'. Prove '..Said' where nothing that the law and all that it calls make is longer than what came in: it says more and counts as full. Else prove '..UptoSaid'. A law counts once. -/
mutual
def uptoBulk {H : Type} : DataW H → Nat
  | .lit (.string bytes) => bytes.length + 1
  | .lit _ => 1
  | .nil => 1
  | .ptr d => uptoBulk d + 1
  | .slice elems spare => uptoBulkAll elems + uptoBulkAll spare + 1
  | .agg parts => uptoBulkAll parts + 1
  | .iface _ d => uptoBulk d + 1
  | .map entries => uptoBulkEntries entries + 1
  | .held _ => 1
def uptoBulkAll {H : Type} : List (DataW H) → Nat
  | [] => 0
  | d :: r => uptoBulk d + uptoBulkAll r
def uptoBulkEntries {H : Type} : List (Lit × DataW H) → Nat
  | [] => 0
  | x :: r => uptoBulkEntry x + uptoBulkEntries r
def uptoBulkEntry {H : Type} : Lit × DataW H → Nat
  | (.string bytes, d) => bytes.length + uptoBulk d + 1
  | (_, d) => uptoBulk d + 1
 end
def uptoSmall : (H : Type) → List (DataW H) → Bool := fun _ ds => decide (uptoBulkAll ds ≤ 1048576)
def OpenSpec.upto (s : _root_.Go.ChangeSpec) : _root_.Go.OpenSpec := { _root_.Go.OpenSpec.ofChange s with cond := some uptoSmall }

/-- 'chicanelaw33.SaveDecode', WHERE WHAT IT READS IS OF BULK AT MOST 1048576: true; the input reads as it did. -/
def saveDecodeUptoRow : OpenClaim := { program := "ytkmhaoibmmcagaa", sum := "8dc32ade76908f1259c5371d38520dea70fd3e4061dd24a6ce4472dde600ffe7", func := "chicane/chicanelaw33.SaveDecode", spec := "saveDecode", apart := false, narrowed := true }
def SaveDecodeUptoSaid : Prop := saveDecodeUptoRow.holds Try.pinned (OpenSpec.upto saveDecodeSpec)

/-- 'chicanelaw33.SaveBack', WHERE WHAT IT READS IS OF BULK AT MOST 1048576: true; the input reads as it did. -/
def saveBackUptoRow : OpenClaim := { program := "ytkmhaoibmmcagaa", sum := "8dc32ade76908f1259c5371d38520dea70fd3e4061dd24a6ce4472dde600ffe7", func := "chicane/chicanelaw33.SaveBack", spec := "saveBack", apart := false, narrowed := true }
def SaveBackUptoSaid : Prop := saveBackUptoRow.holds Try.pinned (OpenSpec.upto saveBackSpec)

/-- 'chicanelaw33.SaveOne', WHERE WHAT IT READS IS OF BULK AT MOST 1048576: true; the input reads as it did. -/
def saveOneUptoRow : OpenClaim := { program := "ytkmhaoibmmcagaa", sum := "8dc32ade76908f1259c5371d38520dea70fd3e4061dd24a6ce4472dde600ffe7", func := "chicane/chicanelaw33.SaveOne", spec := "saveOne", apart := false, narrowed := true }
def SaveOneUptoSaid : Prop := saveOneUptoRow.holds Try.pinned (OpenSpec.upto saveOneSpec)

/-- 'chicanelaw33.SaveEncode', WHERE WHAT IT READS IS OF BULK AT MOST 1048576: true; the input reads as it did. -/
def saveEncodeUptoRow : OpenClaim := { program := "ytkmhaoibmmcagaa", sum := "8dc32ade76908f1259c5371d38520dea70fd3e4061dd24a6ce4472dde600ffe7", func := "chicane/chicanelaw33.SaveEncode", spec := "saveEncode", apart := false, narrowed := true }
def SaveEncodeUptoSaid : Prop := saveEncodeUptoRow.holds Try.pinned (OpenSpec.upto saveEncodeSpec)

end Rows
end Go.Proofs.Ytkmhaoibmmcagaa
