/- Whatever the arguments: the statement WheelPush of this program returns true, as given. No condition. -/
import Derived.Test.YtkobnmpilcpojaaGreatPP7t
import Derived.Test.YtkobnmpilcpojaaGreatRows
import Derived.WalkKit
import Derived.ProofKit
import Derived.OpenShut
import Derived.ShutString
import Derived.ChangeOld
import Derived.Below
import Derived.SizedLaws
import Derived.JoinedOf
set_option linter.unusedVariables false
set_option linter.unusedSimpArgs false
set_option maxRecDepth 100000
namespace Go.Proofs.YtkobnmpilcpojaaGreat
open Go Go.Ab Go.ChangeShapes Go.WideShapes Go.RowKit
theorem own : ownKnob Tryz.prog.godebug = none := by kernel_rfl
theorem laidOut : laidOutB Tryz.prog = true := by kernel_rfl
noncomputable def zeroOf (t : TypeId) : Value := ((Tryz.prog.info? t).bind (·.zero)).getD undef
theorem does3 : ∀ y : Sh.Ts [CarSh, RestSh], Sh.oks [CarSh, RestSh] y → ∃ h', Does Tryz.prog 3 (Sh.args _ y 0) (Sh.entss _ y) (.val (.bool true)) h' := fun y hy => ⟨_, reads3 y (true, ()) (true3o y hy)⟩
theorem lifted3 (os : Os) (started : os.Started) (H : Type) (enc : TypeId × Value → H) :
    ReturnsInHanded {} Tryz.checked os 3 .any (Rows.wheelPushSpec.pre6 enc Tryz.prog Tryz.f3 Rows.wheelPushRow.domain false) (Rows.wheelPushSpec.post enc Tryz.prog Tryz.f3 false true false false) := by
  refine returnsInHanded_of_change_sized (C := Tryz.checked) own started (by kernel_rfl) Tryz.func3 ?_ ?_
  · exact ChangeSpec.witness6 (enc := enc) (C := Tryz.checked) false ⟨#[], #[zeroOf 37, zeroOf 43], []⟩ 8 (by kernel_rfl) (by kernel_rfl) (by kernel_rfl) (by kernel_rfl)
  intro W base args ds gs before hval hW hcnd hsz _
  have hW' := hW
  obtain ⟨p, q, hA, hV, rfl, hfz, hnd⟩ := hW
  obtain ⟨rfl, rfl⟩ := trodVars_none hV
  have hr := row_calls (enc := enc) laidOut (fn := Tryz.f3) (c := Tryz.f3.body.getD .skip) Tryz.func3 (by kernel_rfl) (by kernel_rfl) (l := [CarSh, RestSh]) (ts := Tryz.f3.params.toList) (by kernel_rfl) (by kernel_rfl) does3 (fun j t v h1 h2 => hval j t v (by simpa using h1) h2) hA
  have hp : Tryz.f3.params.toList = [37, 43] := by kernel_rfl
  rw [hp] at hA
  obtain ⟨v0, vs0, d0, ds0, p0, q0, _, rfl, rfl, _, r0⟩ := trodAll_cons hA
  obtain ⟨v1, vs1, d1, ds1, p1, q1, _, rfl, rfl, _, r1⟩ := trodAll_cons r0
  obtain ⟨_, rfl, rfl⟩ := trodAll_nil r1
  refine hr.mono fun e W' ⟨he, bel, hA2⟩ => ?_
  subst he
  exact ⟨_, rfl, _, _, _, [], _, [], hW', trodAll_mk1 (shut_bool Tryz.underlying4 _), hA2, rfl, bel.frame _, fun h => by cases h⟩
theorem over3 : Rows.wheelPushRow.holds Tryz.pinned (OpenSpec.ofChange Rows.wheelPushSpec) :=
  OpenClaim.holds_of_wide 3 Tryz.f3 rfl rfl rfl rfl rfl rfl rfl ⟨rfl, rfl, rfl, rfl, rfl⟩ rfl rfl rfl rfl rfl (by kernel_rfl) Tryz.func3 (by kernel_rfl)
    (of_decide_eq_true (by kernel_rfl)) (by unfold Func.isWrapper; first | (rw [if_pos (by decide +kernel)]; kernel_rfl) | (rw [if_neg (by decide +kernel)]; exact ⟨rfl, rfl⟩))
    (fun os started H enc _ => lifted3 os started H enc)
theorem wheelPush_holds : Rows.WheelPushSaid := over3
#print axioms wheelPush_holds
end Go.Proofs.YtkobnmpilcpojaaGreat
