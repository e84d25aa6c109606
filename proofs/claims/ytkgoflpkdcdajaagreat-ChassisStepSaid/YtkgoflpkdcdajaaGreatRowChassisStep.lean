/- Whatever the arguments: the statement ChassisStep of this program returns true, as given. No condition. -/
import Derived.Test.YtkgoflpkdcdajaaGreatPP28f
import Derived.Test.YtkgoflpkdcdajaaGreatRows
import Derived.WalkKit
import Derived.ProofKit
import Derived.OpenShut
import Derived.ShutString
import Derived.ChangeOld
import Derived.Below
import Derived.SizedLaws
import Derived.JoinedOf
set_option linter.unusedVariables false
set_option linter.unusedSimpArgs false
set_option maxRecDepth 100000
namespace Go.Proofs.YtkgoflpkdcdajaaGreat
open Go Go.Ab Go.ChangeShapes Go.WideShapes Go.RowKit
theorem own : ownKnob Tryz.prog.godebug = none := by kernel_rfl
theorem laidOut : laidOutB Tryz.prog = true := by kernel_rfl
noncomputable def zeroOf (t : TypeId) : Value := ((Tryz.prog.info? t).bind (·.zero)).getD undef
theorem does4 : ∀ y : Sh.Ts [CarSh, BodySh, AskSh], Sh.oks [CarSh, BodySh, AskSh] y → ∃ h', Does Tryz.prog 4 (Sh.args _ y 0) (Sh.entss _ y) (.val (.bool true)) h' := fun y hy => ⟨_, reads4 y (true, ()) (true4o y hy)⟩
theorem lifted4 (os : Os) (started : os.Started) (H : Type) (enc : TypeId × Value → H) :
    ReturnsInHanded {} Tryz.checked os 4 .any (Rows.chassisStepSpec.pre6 enc Tryz.prog Tryz.f4 Rows.chassisStepRow.domain false) (Rows.chassisStepSpec.post enc Tryz.prog Tryz.f4 false true false false) := by
  refine returnsInHanded_of_change_sized (C := Tryz.checked) own started (by kernel_rfl) Tryz.func4 ?_ ?_
  · exact ChangeSpec.witness6 (enc := enc) (C := Tryz.checked) false ⟨#[], #[zeroOf 37, zeroOf 41, zeroOf 59], []⟩ 8 (by kernel_rfl) (by kernel_rfl) (by kernel_rfl) (by kernel_rfl)
  intro W base args ds gs before hval hW hcnd hsz _
  have hW' := hW
  obtain ⟨p, q, hA, hV, rfl, hfz, hnd⟩ := hW
  obtain ⟨rfl, rfl⟩ := trodVars_none hV
  have hr := row_calls (enc := enc) laidOut (fn := Tryz.f4) (c := Tryz.f4.body.getD .skip) Tryz.func4 (by kernel_rfl) (by kernel_rfl) (l := [CarSh, BodySh, AskSh]) (ts := Tryz.f4.params.toList) (by kernel_rfl) (by kernel_rfl) does4 (fun j t v h1 h2 => hval j t v (by simpa using h1) h2) hA
  have hp : Tryz.f4.params.toList = [37, 41, 59] := by kernel_rfl
  rw [hp] at hA
  obtain ⟨v0, vs0, d0, ds0, p0, q0, _, rfl, rfl, _, r0⟩ := trodAll_cons hA
  obtain ⟨v1, vs1, d1, ds1, p1, q1, _, rfl, rfl, _, r1⟩ := trodAll_cons r0
  obtain ⟨v2, vs2, d2, ds2, p2, q2, _, rfl, rfl, _, r2⟩ := trodAll_cons r1
  obtain ⟨_, rfl, rfl⟩ := trodAll_nil r2
  refine hr.mono fun e W' ⟨he, bel, hA2⟩ => ?_
  subst he
  exact ⟨_, rfl, _, _, _, [], _, [], hW', trodAll_mk1 (shut_bool Tryz.underlying4 _), hA2, rfl, bel.frame _, fun h => by cases h⟩
theorem over4 : Rows.chassisStepRow.holds Tryz.pinned (OpenSpec.ofChange Rows.chassisStepSpec) :=
  OpenClaim.holds_of_wide 4 Tryz.f4 rfl rfl rfl rfl rfl rfl rfl ⟨rfl, rfl, rfl, rfl, rfl⟩ rfl rfl rfl rfl rfl (by kernel_rfl) Tryz.func4 (by kernel_rfl)
    (of_decide_eq_true (by kernel_rfl)) (by unfold Func.isWrapper; first | (rw [if_pos (by decide +kernel)]; kernel_rfl) | (rw [if_neg (by decide +kernel)]; exact ⟨rfl, rfl⟩))
    (fun os started H enc _ => lifted4 os started H enc)
theorem chassisStep_holds : Rows.ChassisStepSaid := over4
#print axioms chassisStep_holds
end Go.Proofs.YtkgoflpkdcdajaaGreat
