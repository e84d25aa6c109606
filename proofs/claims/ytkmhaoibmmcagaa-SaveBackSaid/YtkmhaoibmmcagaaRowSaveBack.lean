/- Whatever the arguments: the statement SaveBack of this program returns true, as given. No condition. -/
import Derived.Test.YtkmhaoibmmcagaaPP33e
import Derived.Test.YtkmhaoibmmcagaaRows
import Derived.WalkKit
import Derived.ProofKit
import Derived.OpenShut
import Derived.ShutString
import Derived.ChangeOld
import Derived.Below
import Derived.SizedLaws
import Derived.JoinedOf
set_option linter.unusedVariables false
set_option linter.unusedSimpArgs false
set_option maxRecDepth 100000
namespace Go.Proofs.Ytkmhaoibmmcagaa
open Go Go.Ab Go.ChangeShapes Go.WideShapes Go.RowKit
theorem own : ownKnob Try.prog.godebug = none := by kernel_rfl
theorem laidOut : laidOutB Try.prog = true := by kernel_rfl
noncomputable def zeroOf (t : TypeId) : Value := ((Try.prog.info? t).bind (·.zero)).getD undef
theorem does4 : ∀ y : Sh.Ts [StateSh], Sh.oks [StateSh] y → ∃ h', Does Try.prog 4 (Sh.args _ y 0) (Sh.entss _ y) (.val (.bool true)) h' := fun y hy => ⟨_, reads4 y (true, ()) (true4o y hy)⟩
theorem lifted4 (os : Os) (started : os.Started) (H : Type) (enc : TypeId × Value → H) :
    ReturnsInHanded {} Try.checked os 4 .any (Rows.saveBackSpec.pre6 enc Try.prog Try.f4 Rows.saveBackRow.domain false) (Rows.saveBackSpec.post enc Try.prog Try.f4 false true false false) := by
  refine returnsInHanded_of_change_sized (C := Try.checked) own started (by kernel_rfl) Try.func4 ?_ ?_
  · exact ChangeSpec.witness6 (enc := enc) (C := Try.checked) false ⟨#[], #[zeroOf 41], []⟩ 8 (by kernel_rfl) (by kernel_rfl) (by kernel_rfl) (by kernel_rfl)
  intro W base args ds gs before hval hW hcnd hsz _
  have hW' := hW
  obtain ⟨p, q, hA, hV, rfl, hfz, hnd⟩ := hW
  obtain ⟨rfl, rfl⟩ := trodVars_none hV
  have hr := row_calls (enc := enc) laidOut (fn := Try.f4) (c := Try.f4.body.getD .skip) Try.func4 (by kernel_rfl) (by kernel_rfl) (l := [StateSh]) (ts := Try.f4.params.toList) (by kernel_rfl) (by kernel_rfl) does4 (fun j t v h1 h2 => hval j t v (by simpa using h1) h2) hA
  have hp : Try.f4.params.toList = [41] := by kernel_rfl
  rw [hp] at hA
  obtain ⟨v0, vs0, d0, ds0, p0, q0, _, rfl, rfl, _, r0⟩ := trodAll_cons hA
  obtain ⟨_, rfl, rfl⟩ := trodAll_nil r0
  refine hr.mono fun e W' ⟨he, bel, hA2⟩ => ?_
  subst he
  exact ⟨_, rfl, _, _, _, [], _, [], hW', trodAll_mk1 (shut_bool Try.underlying4 _), hA2, rfl, bel.frame _, fun h => by cases h⟩
theorem over4 : Rows.saveBackRow.holds Try.pinned (OpenSpec.ofChange Rows.saveBackSpec) :=
  OpenClaim.holds_of_wide 4 Try.f4 rfl rfl rfl rfl rfl rfl rfl ⟨rfl, rfl, rfl, rfl, rfl⟩ rfl rfl rfl rfl rfl (by kernel_rfl) Try.func4 (by kernel_rfl)
    (of_decide_eq_true (by kernel_rfl)) (by unfold Func.isWrapper; first | (rw [if_pos (by decide +kernel)]; kernel_rfl) | (rw [if_neg (by decide +kernel)]; exact ⟨rfl, rfl⟩))
    (fun os started H enc _ => lifted4 os started H enc)
theorem saveBack_holds : Rows.SaveBackSaid := over4
#print axioms saveBack_holds
end Go.Proofs.Ytkmhaoibmmcagaa
