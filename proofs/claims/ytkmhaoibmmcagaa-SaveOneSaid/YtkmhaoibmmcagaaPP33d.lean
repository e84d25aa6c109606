/- Plain Lean: what the laws of this program's functions come to, in numbers and lists; no program is run here. -/
import Derived.Test.YtkmhaoibmmcagaaPP33c
set_option linter.unusedVariables false
set_option linter.unusedSimpArgs false
set_option maxRecDepth 100000
namespace Go.Proofs.Ytkmhaoibmmcagaa
open Go Go.Ab Go.Proofs
/- What both encodes come to: the mark and the words' bytes, in plain Lean (r33). -/
def nx (w : Int) : Int := IntKind.u64.wrap (w.tdiv 256)
def rd8 (w : Int) : List Int := [IntKind.u8.wrap (w.tmod 256), IntKind.u8.wrap ((nx w).tmod 256), IntKind.u8.wrap ((nx (nx w)).tmod 256), IntKind.u8.wrap ((nx (nx (nx w))).tmod 256), IntKind.u8.wrap ((nx (nx (nx (nx w)))).tmod 256), IntKind.u8.wrap ((nx (nx (nx (nx (nx w))))).tmod 256), IntKind.u8.wrap ((nx (nx (nx (nx (nx (nx w)))))).tmod 256), IntKind.u8.wrap ((nx (nx (nx (nx (nx (nx (nx w))))))).tmod 256)]
theorem nx_v (w : Int) (h : 0 ≤ w ∧ w < 18446744073709551616) : nx w = w.fdiv 256 ∧ 0 ≤ w.fdiv 256 ∧ w.fdiv 256 < 18446744073709551616 := by
  unfold nx
  rw [fdv, wu64, Int.tdiv_eq_ediv_of_nonneg h.1]; omega
theorem tm_v (w : Int) (h : 0 ≤ w) : IntKind.u8.wrap (w.tmod 256) = IntKind.u8.wrap w := by
  rw [wu8, wu8, Int.tmod_eq_emod_of_nonneg h]; omega
theorem rd8_v (w : Int) (h : 0 ≤ w ∧ w < 18446744073709551616) : rd8 w = wd8 w := by
  obtain ⟨e1, h1⟩ := nx_v w h
  obtain ⟨e2, h2⟩ := nx_v _ h1
  obtain ⟨e3, h3⟩ := nx_v _ h2
  obtain ⟨e4, h4⟩ := nx_v _ h3
  obtain ⟨e5, h5⟩ := nx_v _ h4
  obtain ⟨e6, h6⟩ := nx_v _ h5
  obtain ⟨e7, h7⟩ := nx_v _ h6
  unfold rd8 wd8
  rw [e1, e2, e3, e4, e5, e6, e7, tm_v _ h.1, tm_v _ h1.1, tm_v _ h2.1, tm_v _ h3.1, tm_v _ h4.1, tm_v _ h5.1, tm_v _ h6.1, tm_v _ h7.1]
theorem u64r (n : Int) : 0 ≤ IntKind.u64.wrap n ∧ IntKind.u64.wrap n < 18446744073709551616 := by rw [wu64]; omega
def rawE (f : Int → List Int) (x : StateT × Unit) : List Int := [67, 72, 83, 84] ++ (f (IntKind.u64.wrap x.1.1.1.1) ++ (f (IntKind.u64.wrap x.1.1.1.2.1) ++ (f (IntKind.u64.wrap x.1.1.1.2.2.1) ++ (f (IntKind.u64.wrap x.1.1.2.1.1) ++ (f (IntKind.u64.wrap x.1.1.2.1.2.1) ++ (f (IntKind.u64.wrap x.1.1.2.1.2.2.1) ++ (f (IntKind.u64.wrap x.1.1.2.2.1.1) ++ (f (IntKind.u64.wrap x.1.1.2.2.1.2.1) ++ (f (IntKind.u64.wrap x.1.1.2.2.1.2.2.1) ++ (f (IntKind.u64.wrap x.1.1.2.2.1.2.2.2.1) ++ (f (IntKind.u64.wrap x.1.1.2.2.2.1.1) ++ (f (IntKind.u64.wrap x.1.1.2.2.2.1.2.1) ++ (f (IntKind.u64.wrap x.1.1.2.2.2.1.2.2.1) ++ (f (IntKind.u64.wrap x.1.2.1.1.1) ++ (f (IntKind.u64.wrap x.1.2.1.1.2.1) ++ ([bif x.1.2.1.1.2.2.1 then 1 else 0] ++ (f (IntKind.u64.wrap x.1.2.1.2.1.1) ++ (f (IntKind.u64.wrap x.1.2.1.2.1.2.1) ++ ([bif x.1.2.1.2.1.2.2.1 then 1 else 0] ++ (f (IntKind.u64.wrap x.1.2.1.2.2.1.1) ++ (f (IntKind.u64.wrap x.1.2.1.2.2.1.2.1) ++ ([bif x.1.2.1.2.2.1.2.2.1 then 1 else 0] ++ (f (IntKind.u64.wrap x.1.2.1.2.2.2.1.1) ++ (f (IntKind.u64.wrap x.1.2.1.2.2.2.1.2.1) ++ ([bif x.1.2.1.2.2.2.1.2.2.1 then 1 else 0] ++ (f (IntKind.u64.wrap x.1.2.2.1.1) ++ ([bif x.1.2.2.1.2.1 then 1 else 0] ++ (f (IntKind.u64.wrap x.1.2.2.1.2.2.1) ++ (f (IntKind.u64.wrap x.1.2.2.1.2.2.2.1) ++ (f (IntKind.u64.wrap (IntKind.i64.wrap x.1.2.2.1.2.2.2.2.1)) ++ (f (IntKind.u64.wrap x.1.2.2.2.1.1) ++ (f (IntKind.u64.wrap x.1.2.2.2.1.2.1) ++ ([bif x.1.2.2.2.1.2.2.1 then 1 else 0] ++ ([bif x.1.2.2.2.1.2.2.2.1 then 1 else 0] ++ (f (IntKind.u64.wrap x.1.2.2.2.1.2.2.2.2.1) ++ (f (IntKind.u64.wrap x.1.2.2.2.1.2.2.2.2.2.1) ++ (f (IntKind.u64.wrap x.1.2.2.2.1.2.2.2.2.2.2.1) ++ (f (IntKind.u64.wrap x.1.2.2.2.1.2.2.2.2.2.2.2.1) ++ (f (IntKind.u64.wrap x.1.2.2.2.1.2.2.2.2.2.2.2.2.1) ++ ([bif x.1.2.2.2.1.2.2.2.2.2.2.2.2.2.1 then 1 else 0] ++ ([bif x.1.2.2.2.2.1 then 1 else 0])))))))))))))))))))))))))))))))))))))))))
theorem bifS {α : Type} (c : Bool) (a : α) : (bif c then a else a) = a := by cases c <;> rfl
theorem raw12 (x : StateT × Unit) : law12 x = some (rawE wd8 x) := by
  have h : law12 x = (bif IntKind.i64.wrap (IntKind.u32.wrap (IntKind.i64.wrap x.1.2.2.1.2.2.2.2.1)) != IntKind.i64.wrap x.1.2.2.1.2.2.2.2.1 then some (rawE wd8 x) else some (rawE wd8 x)) := by kernel_rfl
  rw [h, bifS]
theorem raw13 (x : StateT × Unit) : law13 x = some (rawE rd8 x) := by kernel_rfl
theorem encW_f (b : Bool) : encW .f (bif b then 1 else 0) = [bif b then 1 else 0] := by cases b <;> rfl
theorem u64i64 (w : Int) : IntKind.u64.wrap (IntKind.i64.wrap w) = IntKind.u64.wrap w := by rw [wu64, wu64, IntKind.wrap_i64]; omega
def encS (s : StateT) : List Int := [67, 72, 83, 84] ++ encL kS (unS s)
theorem rawE_wd (x : StateT × Unit) : rawE wd8 x = encS x.1 := by
  unfold rawE encS kS unS
  simp only [encL, encW_f, u64i64, List.append_nil]
  rfl
theorem rawE_rd (x : StateT × Unit) : rawE rd8 x = rawE wd8 x := by
  unfold rawE
  simp only [rd8_v _ (u64r _)]
theorem enc12 (x : StateT × Unit) : fn12 x = some (encS x.1) := (raw12 x).trans (congrArg some (rawE_wd x))
theorem enc13 (x : StateT × Unit) : fn13 x = some (encS x.1) := (fn13_law x).symm.trans ((raw13 x).trans (congrArg some ((rawE_rd x).trans (rawE_wd x))))
end Go.Proofs.Ytkmhaoibmmcagaa
