/- Plain Lean: what the laws of this program's functions come to, in numbers and lists; no program is run here. -/
import Derived.Test.YtkmhaoibmmcagaaPP33b
set_option linter.unusedVariables false
set_option linter.unusedSimpArgs false
set_option maxRecDepth 100000
namespace Go.Proofs.Ytkmhaoibmmcagaa
open Go Go.Ab Go.Proofs
/- Both decodes read a text of the mark CHST and 41 words, in plain Lean (r33). -/
def kS : List Kd := [.n, .n, .n, .n, .n, .n, .n, .n, .n, .n, .n, .n, .n, .n, .n, .f, .n, .n, .f, .n, .n, .f, .n, .n, .f, .n, .f, .n, .n, .t, .n, .n, .f, .f, .n, .n, .n, .n, .n, .f, .f]
def stS (W : List Int) : StateT := (((W.getD 0 0, W.getD 1 0, W.getD 2 0, ()), (W.getD 3 0, W.getD 4 0, W.getD 5 0, ()), (W.getD 6 0, W.getD 7 0, W.getD 8 0, W.getD 9 0, ()), (W.getD 10 0, W.getD 11 0, W.getD 12 0, ()), ()), ((W.getD 13 0, W.getD 14 0, (W.getD 15 0 == 1), ()), (W.getD 16 0, W.getD 17 0, (W.getD 18 0 == 1), ()), (W.getD 19 0, W.getD 20 0, (W.getD 21 0 == 1), ()), (W.getD 22 0, W.getD 23 0, (W.getD 24 0 == 1), ()), ()), (W.getD 25 0, (W.getD 26 0 == 1), W.getD 27 0, W.getD 28 0, IntKind.u32.wrap (W.getD 29 0), ()), (W.getD 30 0, W.getD 31 0, (W.getD 32 0 == 1), (W.getD 33 0 == 1), W.getD 34 0, W.getD 35 0, W.getD 36 0, W.getD 37 0, W.getD 38 0, (W.getD 39 0 == 1), ()), (W.getD 40 0 == 1), ())
def zeS : StateT := (((0, 0, 0, ()), (0, 0, 0, ()), (0, 0, 0, 0, ()), (0, 0, 0, ()), ()), ((0, 0, false, ()), (0, 0, false, ()), (0, 0, false, ()), (0, 0, false, ()), ()), (0, false, 0, 0, 0, ()), (0, 0, false, false, 0, 0, 0, 0, 0, false, ()), false, ())
def unS (s : StateT) : List Int := [s.1.1.1, s.1.1.2.1, s.1.1.2.2.1, s.1.2.1.1, s.1.2.1.2.1, s.1.2.1.2.2.1, s.1.2.2.1.1, s.1.2.2.1.2.1, s.1.2.2.1.2.2.1, s.1.2.2.1.2.2.2.1, s.1.2.2.2.1.1, s.1.2.2.2.1.2.1, s.1.2.2.2.1.2.2.1, s.2.1.1.1, s.2.1.1.2.1, (bif s.2.1.1.2.2.1 then 1 else 0), s.2.1.2.1.1, s.2.1.2.1.2.1, (bif s.2.1.2.1.2.2.1 then 1 else 0), s.2.1.2.2.1.1, s.2.1.2.2.1.2.1, (bif s.2.1.2.2.1.2.2.1 then 1 else 0), s.2.1.2.2.2.1.1, s.2.1.2.2.2.1.2.1, (bif s.2.1.2.2.2.1.2.2.1 then 1 else 0), s.2.2.1.1, (bif s.2.2.1.2.1 then 1 else 0), s.2.2.1.2.2.1, s.2.2.1.2.2.2.1, s.2.2.1.2.2.2.2.1, s.2.2.2.1.1, s.2.2.2.1.2.1, (bif s.2.2.2.1.2.2.1 then 1 else 0), (bif s.2.2.2.1.2.2.2.1 then 1 else 0), s.2.2.2.1.2.2.2.2.1, s.2.2.2.1.2.2.2.2.2.1, s.2.2.2.1.2.2.2.2.2.2.1, s.2.2.2.1.2.2.2.2.2.2.2.1, s.2.2.2.1.2.2.2.2.2.2.2.2.1, (bif s.2.2.2.1.2.2.2.2.2.2.2.2.2.1 then 1 else 0), (bif s.2.2.2.2.1 then 1 else 0)]
def finS (r : Int × Int × List Int) : StateT × Int × Int × Unit := bif r.1 != 0 then (zeS, r.1, r.2.1, ()) else (stS r.2.2, 0, 0, ())
def finM (l : List Int) (s : RM × List Int) : StateT × Int × Int × Unit := finS ((endP l s.1).1, (endP l s.1).2, s.2)
theorem fl (b : Bool) : ((bif b then (1 : Int) else 0) == 1) = b := by cases b <;> rfl
theorem turnC (w : Int) : (IntKind.i64.wrap (IntKind.u32.wrap w) != w) = !decide (IntKind.u32.wrap w = w) := by
  rw [show IntKind.i64.wrap (IntKind.u32.wrap w) = IntKind.u32.wrap w from by rw [wu32, IntKind.wrap_i64]; omega]
  rfl
theorem dn {l : List Int} {K : List Kd} {m : RM} : decL l (.n :: K) m = ((decL l K (numP l m).1).1, (numP l m).2 :: (decL l K (numP l m).1).2) := rfl
theorem df {l : List Int} {K : List Kd} {m : RM} : decL l (.f :: K) m = ((decL l K (flagP l m).1).1, (bif (flagP l m).2 then 1 else 0) :: (decL l K (flagP l m).1).2) := rfl
theorem dt {l : List Int} {K : List Kd} {m : RM} : decL l (.t :: K) m = ((decL l K (bif decide (IntKind.u32.wrap (numP l m).2 = (numP l m).2) then (numP l m).1 else refP (numP l m).1 40)).1, (numP l m).2 :: (decL l K (bif decide (IntKind.u32.wrap (numP l m).2 = (numP l m).2) then (numP l m).1 else refP (numP l m).1 40)).2) := rfl
theorem dec7 {l : List Int} (hL : l.length ≤ 100000) (hb : Byt l) : fn7 (l, ()) = some (finS (readT [67, 72, 83, 84] kS l)) := by
  show law7 (l, ()) = some (finM l (decL l kS (markP l (0, 0, 0, 0, ()) [67, 72, 83, 84])))
  unfold law7 kS
  have k := okm0 l
  refine (bindT (clone32 l (by omega))).trans ?_
  dsimp only
  refine (bindT (mark16 hL k)).trans ?_
  have k := okm_mark (t := [67, 72, 83, 84]) k
  dsimp only
  generalize markP l (0, 0, 0, 0, ()) [67, 72, 83, 84] = m at k ⊢
  refine (bindT (num51 hL hb k)).trans ?_
  rw [dn]
  have k := okm_num k
  dsimp only
  generalize numP l m = r at k ⊢
  obtain ⟨m, w0⟩ := r
  dsimp only at k ⊢
  refine (bindT (num51 hL hb k)).trans ?_
  rw [dn]
  have k := okm_num k
  dsimp only
  generalize numP l m = r at k ⊢
  obtain ⟨m, w1⟩ := r
  dsimp only at k ⊢
  refine (bindT (num51 hL hb k)).trans ?_
  rw [dn]
  have k := okm_num k
  dsimp only
  generalize numP l m = r at k ⊢
  obtain ⟨m, w2⟩ := r
  dsimp only at k ⊢
  refine (bindT (num51 hL hb k)).trans ?_
  rw [dn]
  have k := okm_num k
  dsimp only
  generalize numP l m = r at k ⊢
  obtain ⟨m, w3⟩ := r
  dsimp only at k ⊢
  refine (bindT (num51 hL hb k)).trans ?_
  rw [dn]
  have k := okm_num k
  dsimp only
  generalize numP l m = r at k ⊢
  obtain ⟨m, w4⟩ := r
  dsimp only at k ⊢
  refine (bindT (num51 hL hb k)).trans ?_
  rw [dn]
  have k := okm_num k
  dsimp only
  generalize numP l m = r at k ⊢
  obtain ⟨m, w5⟩ := r
  dsimp only at k ⊢
  refine (bindT (num51 hL hb k)).trans ?_
  rw [dn]
  have k := okm_num k
  dsimp only
  generalize numP l m = r at k ⊢
  obtain ⟨m, w6⟩ := r
  dsimp only at k ⊢
  refine (bindT (num51 hL hb k)).trans ?_
  rw [dn]
  have k := okm_num k
  dsimp only
  generalize numP l m = r at k ⊢
  obtain ⟨m, w7⟩ := r
  dsimp only at k ⊢
  refine (bindT (num51 hL hb k)).trans ?_
  rw [dn]
  have k := okm_num k
  dsimp only
  generalize numP l m = r at k ⊢
  obtain ⟨m, w8⟩ := r
  dsimp only at k ⊢
  refine (bindT (num51 hL hb k)).trans ?_
  rw [dn]
  have k := okm_num k
  dsimp only
  generalize numP l m = r at k ⊢
  obtain ⟨m, w9⟩ := r
  dsimp only at k ⊢
  refine (bindT (num51 hL hb k)).trans ?_
  rw [dn]
  have k := okm_num k
  dsimp only
  generalize numP l m = r at k ⊢
  obtain ⟨m, w10⟩ := r
  dsimp only at k ⊢
  refine (bindT (num51 hL hb k)).trans ?_
  rw [dn]
  have k := okm_num k
  dsimp only
  generalize numP l m = r at k ⊢
  obtain ⟨m, w11⟩ := r
  dsimp only at k ⊢
  refine (bindT (num51 hL hb k)).trans ?_
  rw [dn]
  have k := okm_num k
  dsimp only
  generalize numP l m = r at k ⊢
  obtain ⟨m, w12⟩ := r
  dsimp only at k ⊢
  refine (bindT (num51 hL hb k)).trans ?_
  rw [dn]
  have k := okm_num k
  dsimp only
  generalize numP l m = r at k ⊢
  obtain ⟨m, w13⟩ := r
  dsimp only at k ⊢
  refine (bindT (num51 hL hb k)).trans ?_
  rw [dn]
  have k := okm_num k
  dsimp only
  generalize numP l m = r at k ⊢
  obtain ⟨m, w14⟩ := r
  dsimp only at k ⊢
  refine (bindT (flag48 hL k)).trans ?_
  rw [df]
  have k := okm_flag k
  dsimp only
  generalize flagP l m = r at k ⊢
  obtain ⟨m, w15⟩ := r
  dsimp only at k ⊢
  refine (bindT (num51 hL hb k)).trans ?_
  rw [dn]
  have k := okm_num k
  dsimp only
  generalize numP l m = r at k ⊢
  obtain ⟨m, w16⟩ := r
  dsimp only at k ⊢
  refine (bindT (num51 hL hb k)).trans ?_
  rw [dn]
  have k := okm_num k
  dsimp only
  generalize numP l m = r at k ⊢
  obtain ⟨m, w17⟩ := r
  dsimp only at k ⊢
  refine (bindT (flag48 hL k)).trans ?_
  rw [df]
  have k := okm_flag k
  dsimp only
  generalize flagP l m = r at k ⊢
  obtain ⟨m, w18⟩ := r
  dsimp only at k ⊢
  refine (bindT (num51 hL hb k)).trans ?_
  rw [dn]
  have k := okm_num k
  dsimp only
  generalize numP l m = r at k ⊢
  obtain ⟨m, w19⟩ := r
  dsimp only at k ⊢
  refine (bindT (num51 hL hb k)).trans ?_
  rw [dn]
  have k := okm_num k
  dsimp only
  generalize numP l m = r at k ⊢
  obtain ⟨m, w20⟩ := r
  dsimp only at k ⊢
  refine (bindT (flag48 hL k)).trans ?_
  rw [df]
  have k := okm_flag k
  dsimp only
  generalize flagP l m = r at k ⊢
  obtain ⟨m, w21⟩ := r
  dsimp only at k ⊢
  refine (bindT (num51 hL hb k)).trans ?_
  rw [dn]
  have k := okm_num k
  dsimp only
  generalize numP l m = r at k ⊢
  obtain ⟨m, w22⟩ := r
  dsimp only at k ⊢
  refine (bindT (num51 hL hb k)).trans ?_
  rw [dn]
  have k := okm_num k
  dsimp only
  generalize numP l m = r at k ⊢
  obtain ⟨m, w23⟩ := r
  dsimp only at k ⊢
  refine (bindT (flag48 hL k)).trans ?_
  rw [df]
  have k := okm_flag k
  dsimp only
  generalize flagP l m = r at k ⊢
  obtain ⟨m, w24⟩ := r
  dsimp only at k ⊢
  refine (bindT (num51 hL hb k)).trans ?_
  rw [dn]
  have k := okm_num k
  dsimp only
  generalize numP l m = r at k ⊢
  obtain ⟨m, w25⟩ := r
  dsimp only at k ⊢
  refine (bindT (flag48 hL k)).trans ?_
  rw [df]
  have k := okm_flag k
  dsimp only
  generalize flagP l m = r at k ⊢
  obtain ⟨m, w26⟩ := r
  dsimp only at k ⊢
  refine (bindT (num51 hL hb k)).trans ?_
  rw [dn]
  have k := okm_num k
  dsimp only
  generalize numP l m = r at k ⊢
  obtain ⟨m, w27⟩ := r
  dsimp only at k ⊢
  refine (bindT (num51 hL hb k)).trans ?_
  rw [dn]
  have k := okm_num k
  dsimp only
  generalize numP l m = r at k ⊢
  obtain ⟨m, w28⟩ := r
  dsimp only at k ⊢
  refine (bindT (num51 hL hb k)).trans ?_
  rw [dt]
  have k := okm_num k
  dsimp only
  generalize numP l m = r at k ⊢
  obtain ⟨m, w29⟩ := r
  dsimp only at k ⊢
  by_cases hc : IntKind.u32.wrap w29 = w29
  · refine (bifF (by rw [turnC, decide_eq_true hc]; rfl)).trans ?_
    rw [decide_eq_true hc, cond_true]
    refine (bindT (num51 hL hb k)).trans ?_
    rw [dn]
    have k := okm_num k
    dsimp only
    generalize numP l m = r at k ⊢
    obtain ⟨m, w30⟩ := r
    dsimp only at k ⊢
    refine (bindT (num51 hL hb k)).trans ?_
    rw [dn]
    have k := okm_num k
    dsimp only
    generalize numP l m = r at k ⊢
    obtain ⟨m, w31⟩ := r
    dsimp only at k ⊢
    refine (bindT (flag48 hL k)).trans ?_
    rw [df]
    have k := okm_flag k
    dsimp only
    generalize flagP l m = r at k ⊢
    obtain ⟨m, w32⟩ := r
    dsimp only at k ⊢
    refine (bindT (flag48 hL k)).trans ?_
    rw [df]
    have k := okm_flag k
    dsimp only
    generalize flagP l m = r at k ⊢
    obtain ⟨m, w33⟩ := r
    dsimp only at k ⊢
    refine (bindT (num51 hL hb k)).trans ?_
    rw [dn]
    have k := okm_num k
    dsimp only
    generalize numP l m = r at k ⊢
    obtain ⟨m, w34⟩ := r
    dsimp only at k ⊢
    refine (bindT (num51 hL hb k)).trans ?_
    rw [dn]
    have k := okm_num k
    dsimp only
    generalize numP l m = r at k ⊢
    obtain ⟨m, w35⟩ := r
    dsimp only at k ⊢
    refine (bindT (num51 hL hb k)).trans ?_
    rw [dn]
    have k := okm_num k
    dsimp only
    generalize numP l m = r at k ⊢
    obtain ⟨m, w36⟩ := r
    dsimp only at k ⊢
    refine (bindT (num51 hL hb k)).trans ?_
    rw [dn]
    have k := okm_num k
    dsimp only
    generalize numP l m = r at k ⊢
    obtain ⟨m, w37⟩ := r
    dsimp only at k ⊢
    refine (bindT (num51 hL hb k)).trans ?_
    rw [dn]
    have k := okm_num k
    dsimp only
    generalize numP l m = r at k ⊢
    obtain ⟨m, w38⟩ := r
    dsimp only at k ⊢
    refine (bindT (flag48 hL k)).trans ?_
    rw [df]
    have k := okm_flag k
    dsimp only
    generalize flagP l m = r at k ⊢
    obtain ⟨m, w39⟩ := r
    dsimp only at k ⊢
    refine (bindT (flag48 hL k)).trans ?_
    rw [df]
    have k := okm_flag k
    dsimp only
    generalize flagP l m = r at k ⊢
    obtain ⟨m, w40⟩ := r
    dsimp only at k ⊢
    rw [decL]
    obtain ⟨m2, he⟩ := end18 (l := l) (m := m)
    refine (bindT he).trans ?_
    dsimp only [finM, finS]
    generalize endP l m = r
    obtain ⟨e, q⟩ := r
    dsimp only
    cases hz : (e != 0)
    · refine (bifF rfl).trans ?_
      simp only [cond_false, stS, List.getD_cons_succ, List.getD_cons_zero, fl]
    · rfl
  · refine (bifT (by rw [turnC, decide_eq_false hc]; rfl)).trans ?_
    rw [decide_eq_false hc, cond_false]
    refine (bindT (ref50 (by decide))).trans ?_
    have k := okm_ref (e := 40) k
    dsimp only
    generalize refP m 40 = m at k ⊢
    refine (bindT (num51 hL hb k)).trans ?_
    rw [dn]
    have k := okm_num k
    dsimp only
    generalize numP l m = r at k ⊢
    obtain ⟨m, w30⟩ := r
    dsimp only at k ⊢
    refine (bindT (num51 hL hb k)).trans ?_
    rw [dn]
    have k := okm_num k
    dsimp only
    generalize numP l m = r at k ⊢
    obtain ⟨m, w31⟩ := r
    dsimp only at k ⊢
    refine (bindT (flag48 hL k)).trans ?_
    rw [df]
    have k := okm_flag k
    dsimp only
    generalize flagP l m = r at k ⊢
    obtain ⟨m, w32⟩ := r
    dsimp only at k ⊢
    refine (bindT (flag48 hL k)).trans ?_
    rw [df]
    have k := okm_flag k
    dsimp only
    generalize flagP l m = r at k ⊢
    obtain ⟨m, w33⟩ := r
    dsimp only at k ⊢
    refine (bindT (num51 hL hb k)).trans ?_
    rw [dn]
    have k := okm_num k
    dsimp only
    generalize numP l m = r at k ⊢
    obtain ⟨m, w34⟩ := r
    dsimp only at k ⊢
    refine (bindT (num51 hL hb k)).trans ?_
    rw [dn]
    have k := okm_num k
    dsimp only
    generalize numP l m = r at k ⊢
    obtain ⟨m, w35⟩ := r
    dsimp only at k ⊢
    refine (bindT (num51 hL hb k)).trans ?_
    rw [dn]
    have k := okm_num k
    dsimp only
    generalize numP l m = r at k ⊢
    obtain ⟨m, w36⟩ := r
    dsimp only at k ⊢
    refine (bindT (num51 hL hb k)).trans ?_
    rw [dn]
    have k := okm_num k
    dsimp only
    generalize numP l m = r at k ⊢
    obtain ⟨m, w37⟩ := r
    dsimp only at k ⊢
    refine (bindT (num51 hL hb k)).trans ?_
    rw [dn]
    have k := okm_num k
    dsimp only
    generalize numP l m = r at k ⊢
    obtain ⟨m, w38⟩ := r
    dsimp only at k ⊢
    refine (bindT (flag48 hL k)).trans ?_
    rw [df]
    have k := okm_flag k
    dsimp only
    generalize flagP l m = r at k ⊢
    obtain ⟨m, w39⟩ := r
    dsimp only at k ⊢
    refine (bindT (flag48 hL k)).trans ?_
    rw [df]
    have k := okm_flag k
    dsimp only
    generalize flagP l m = r at k ⊢
    obtain ⟨m, w40⟩ := r
    dsimp only at k ⊢
    rw [decL]
    obtain ⟨m2, he⟩ := end18 (l := l) (m := m)
    refine (bindT he).trans ?_
    dsimp only [finM, finS]
    generalize endP l m = r
    obtain ⟨e, q⟩ := r
    dsimp only
    cases hz : (e != 0)
    · refine (bifF rfl).trans ?_
      simp only [cond_false, stS, List.getD_cons_succ, List.getD_cons_zero, fl]
    · rfl
theorem dec8 {l : List Int} (hL : l.length ≤ 100000) (hb : Byt l) : fn8 (l, ()) = some (finS (readT [67, 72, 83, 84] kS l)) := by
  show law8 (l, ()) = some (finM l (decL l kS (markP l (0, 0, 0, 0, ()) [67, 72, 83, 84])))
  unfold law8 kS
  have k := okm0 l
  refine (bindT (mark19 hL hb k)).trans ?_
  have k := okm_mark (t := [67, 72, 83, 84]) k
  dsimp only
  generalize markP l (0, 0, 0, 0, ()) [67, 72, 83, 84] = m at k ⊢
  refine (bindT (num24 hL hb k)).trans ?_
  rw [dn]
  have k := okm_num k
  dsimp only
  generalize numP l m = r at k ⊢
  obtain ⟨m, w0⟩ := r
  dsimp only at k ⊢
  refine (bindT (num24 hL hb k)).trans ?_
  rw [dn]
  have k := okm_num k
  dsimp only
  generalize numP l m = r at k ⊢
  obtain ⟨m, w1⟩ := r
  dsimp only at k ⊢
  refine (bindT (num24 hL hb k)).trans ?_
  rw [dn]
  have k := okm_num k
  dsimp only
  generalize numP l m = r at k ⊢
  obtain ⟨m, w2⟩ := r
  dsimp only at k ⊢
  refine (bindT (num24 hL hb k)).trans ?_
  rw [dn]
  have k := okm_num k
  dsimp only
  generalize numP l m = r at k ⊢
  obtain ⟨m, w3⟩ := r
  dsimp only at k ⊢
  refine (bindT (num24 hL hb k)).trans ?_
  rw [dn]
  have k := okm_num k
  dsimp only
  generalize numP l m = r at k ⊢
  obtain ⟨m, w4⟩ := r
  dsimp only at k ⊢
  refine (bindT (num24 hL hb k)).trans ?_
  rw [dn]
  have k := okm_num k
  dsimp only
  generalize numP l m = r at k ⊢
  obtain ⟨m, w5⟩ := r
  dsimp only at k ⊢
  refine (bindT (num24 hL hb k)).trans ?_
  rw [dn]
  have k := okm_num k
  dsimp only
  generalize numP l m = r at k ⊢
  obtain ⟨m, w6⟩ := r
  dsimp only at k ⊢
  refine (bindT (num24 hL hb k)).trans ?_
  rw [dn]
  have k := okm_num k
  dsimp only
  generalize numP l m = r at k ⊢
  obtain ⟨m, w7⟩ := r
  dsimp only at k ⊢
  refine (bindT (num24 hL hb k)).trans ?_
  rw [dn]
  have k := okm_num k
  dsimp only
  generalize numP l m = r at k ⊢
  obtain ⟨m, w8⟩ := r
  dsimp only at k ⊢
  refine (bindT (num24 hL hb k)).trans ?_
  rw [dn]
  have k := okm_num k
  dsimp only
  generalize numP l m = r at k ⊢
  obtain ⟨m, w9⟩ := r
  dsimp only at k ⊢
  refine (bindT (num24 hL hb k)).trans ?_
  rw [dn]
  have k := okm_num k
  dsimp only
  generalize numP l m = r at k ⊢
  obtain ⟨m, w10⟩ := r
  dsimp only at k ⊢
  refine (bindT (num24 hL hb k)).trans ?_
  rw [dn]
  have k := okm_num k
  dsimp only
  generalize numP l m = r at k ⊢
  obtain ⟨m, w11⟩ := r
  dsimp only at k ⊢
  refine (bindT (num24 hL hb k)).trans ?_
  rw [dn]
  have k := okm_num k
  dsimp only
  generalize numP l m = r at k ⊢
  obtain ⟨m, w12⟩ := r
  dsimp only at k ⊢
  refine (bindT (num24 hL hb k)).trans ?_
  rw [dn]
  have k := okm_num k
  dsimp only
  generalize numP l m = r at k ⊢
  obtain ⟨m, w13⟩ := r
  dsimp only at k ⊢
  refine (bindT (num24 hL hb k)).trans ?_
  rw [dn]
  have k := okm_num k
  dsimp only
  generalize numP l m = r at k ⊢
  obtain ⟨m, w14⟩ := r
  dsimp only at k ⊢
  refine (bindT (flag22 hL k)).trans ?_
  rw [df]
  have k := okm_flag k
  dsimp only
  generalize flagP l m = r at k ⊢
  obtain ⟨m, w15⟩ := r
  dsimp only at k ⊢
  refine (bindT (num24 hL hb k)).trans ?_
  rw [dn]
  have k := okm_num k
  dsimp only
  generalize numP l m = r at k ⊢
  obtain ⟨m, w16⟩ := r
  dsimp only at k ⊢
  refine (bindT (num24 hL hb k)).trans ?_
  rw [dn]
  have k := okm_num k
  dsimp only
  generalize numP l m = r at k ⊢
  obtain ⟨m, w17⟩ := r
  dsimp only at k ⊢
  refine (bindT (flag22 hL k)).trans ?_
  rw [df]
  have k := okm_flag k
  dsimp only
  generalize flagP l m = r at k ⊢
  obtain ⟨m, w18⟩ := r
  dsimp only at k ⊢
  refine (bindT (num24 hL hb k)).trans ?_
  rw [dn]
  have k := okm_num k
  dsimp only
  generalize numP l m = r at k ⊢
  obtain ⟨m, w19⟩ := r
  dsimp only at k ⊢
  refine (bindT (num24 hL hb k)).trans ?_
  rw [dn]
  have k := okm_num k
  dsimp only
  generalize numP l m = r at k ⊢
  obtain ⟨m, w20⟩ := r
  dsimp only at k ⊢
  refine (bindT (flag22 hL k)).trans ?_
  rw [df]
  have k := okm_flag k
  dsimp only
  generalize flagP l m = r at k ⊢
  obtain ⟨m, w21⟩ := r
  dsimp only at k ⊢
  refine (bindT (num24 hL hb k)).trans ?_
  rw [dn]
  have k := okm_num k
  dsimp only
  generalize numP l m = r at k ⊢
  obtain ⟨m, w22⟩ := r
  dsimp only at k ⊢
  refine (bindT (num24 hL hb k)).trans ?_
  rw [dn]
  have k := okm_num k
  dsimp only
  generalize numP l m = r at k ⊢
  obtain ⟨m, w23⟩ := r
  dsimp only at k ⊢
  refine (bindT (flag22 hL k)).trans ?_
  rw [df]
  have k := okm_flag k
  dsimp only
  generalize flagP l m = r at k ⊢
  obtain ⟨m, w24⟩ := r
  dsimp only at k ⊢
  refine (bindT (num24 hL hb k)).trans ?_
  rw [dn]
  have k := okm_num k
  dsimp only
  generalize numP l m = r at k ⊢
  obtain ⟨m, w25⟩ := r
  dsimp only at k ⊢
  refine (bindT (flag22 hL k)).trans ?_
  rw [df]
  have k := okm_flag k
  dsimp only
  generalize flagP l m = r at k ⊢
  obtain ⟨m, w26⟩ := r
  dsimp only at k ⊢
  refine (bindT (num24 hL hb k)).trans ?_
  rw [dn]
  have k := okm_num k
  dsimp only
  generalize numP l m = r at k ⊢
  obtain ⟨m, w27⟩ := r
  dsimp only at k ⊢
  refine (bindT (num24 hL hb k)).trans ?_
  rw [dn]
  have k := okm_num k
  dsimp only
  generalize numP l m = r at k ⊢
  obtain ⟨m, w28⟩ := r
  dsimp only at k ⊢
  refine (bindT (num24 hL hb k)).trans ?_
  rw [dt]
  have k := okm_num k
  dsimp only
  generalize numP l m = r at k ⊢
  obtain ⟨m, w29⟩ := r
  dsimp only at k ⊢
  by_cases ha : w29 < 0
  · refine (bifT (by rw [decide_eq_true_eq]; exact ha)).trans ?_
    rw [show decide (IntKind.u32.wrap w29 = w29) = false from by rw [decide_eq_false_iff_not, wu32]; omega, cond_false]
    refine (bindT (ref45 (by decide))).trans ?_
    have k := okm_ref (e := 40) k
    dsimp only
    generalize refP m 40 = m at k ⊢
    refine (bindT (num24 hL hb k)).trans ?_
    rw [dn]
    have k := okm_num k
    dsimp only
    generalize numP l m = r at k ⊢
    obtain ⟨m, w30⟩ := r
    dsimp only at k ⊢
    refine (bindT (num24 hL hb k)).trans ?_
    rw [dn]
    have k := okm_num k
    dsimp only
    generalize numP l m = r at k ⊢
    obtain ⟨m, w31⟩ := r
    dsimp only at k ⊢
    refine (bindT (flag22 hL k)).trans ?_
    rw [df]
    have k := okm_flag k
    dsimp only
    generalize flagP l m = r at k ⊢
    obtain ⟨m, w32⟩ := r
    dsimp only at k ⊢
    refine (bindT (flag22 hL k)).trans ?_
    rw [df]
    have k := okm_flag k
    dsimp only
    generalize flagP l m = r at k ⊢
    obtain ⟨m, w33⟩ := r
    dsimp only at k ⊢
    refine (bindT (num24 hL hb k)).trans ?_
    rw [dn]
    have k := okm_num k
    dsimp only
    generalize numP l m = r at k ⊢
    obtain ⟨m, w34⟩ := r
    dsimp only at k ⊢
    refine (bindT (num24 hL hb k)).trans ?_
    rw [dn]
    have k := okm_num k
    dsimp only
    generalize numP l m = r at k ⊢
    obtain ⟨m, w35⟩ := r
    dsimp only at k ⊢
    refine (bindT (num24 hL hb k)).trans ?_
    rw [dn]
    have k := okm_num k
    dsimp only
    generalize numP l m = r at k ⊢
    obtain ⟨m, w36⟩ := r
    dsimp only at k ⊢
    refine (bindT (num24 hL hb k)).trans ?_
    rw [dn]
    have k := okm_num k
    dsimp only
    generalize numP l m = r at k ⊢
    obtain ⟨m, w37⟩ := r
    dsimp only at k ⊢
    refine (bindT (num24 hL hb k)).trans ?_
    rw [dn]
    have k := okm_num k
    dsimp only
    generalize numP l m = r at k ⊢
    obtain ⟨m, w38⟩ := r
    dsimp only at k ⊢
    refine (bindT (flag22 hL k)).trans ?_
    rw [df]
    have k := okm_flag k
    dsimp only
    generalize flagP l m = r at k ⊢
    obtain ⟨m, w39⟩ := r
    dsimp only at k ⊢
    refine (bindT (flag22 hL k)).trans ?_
    rw [df]
    have k := okm_flag k
    dsimp only
    generalize flagP l m = r at k ⊢
    obtain ⟨m, w40⟩ := r
    dsimp only at k ⊢
    rw [decL]
    obtain ⟨m2, he⟩ := end25 (l := l) (m := m)
    refine (bindT he).trans ?_
    dsimp only [finM, finS]
    generalize endP l m = r
    obtain ⟨e, q⟩ := r
    dsimp only
    cases hz : (e != 0)
    · refine (bifF rfl).trans ?_
      simp only [cond_false, stS, List.getD_cons_succ, List.getD_cons_zero, fl]
    · rfl
  · refine (bifF (by rw [decide_eq_false_iff_not]; exact ha)).trans ?_
    by_cases hb2 : w29 > 4294967295
    · refine (bifT (by rw [decide_eq_true_eq]; exact hb2)).trans ?_
      rw [show decide (IntKind.u32.wrap w29 = w29) = false from by rw [decide_eq_false_iff_not, wu32]; omega, cond_false]
      refine (bindT (ref45 (by decide))).trans ?_
      have k := okm_ref (e := 40) k
      dsimp only
      generalize refP m 40 = m at k ⊢
      refine (bindT (num24 hL hb k)).trans ?_
      rw [dn]
      have k := okm_num k
      dsimp only
      generalize numP l m = r at k ⊢
      obtain ⟨m, w30⟩ := r
      dsimp only at k ⊢
      refine (bindT (num24 hL hb k)).trans ?_
      rw [dn]
      have k := okm_num k
      dsimp only
      generalize numP l m = r at k ⊢
      obtain ⟨m, w31⟩ := r
      dsimp only at k ⊢
      refine (bindT (flag22 hL k)).trans ?_
      rw [df]
      have k := okm_flag k
      dsimp only
      generalize flagP l m = r at k ⊢
      obtain ⟨m, w32⟩ := r
      dsimp only at k ⊢
      refine (bindT (flag22 hL k)).trans ?_
      rw [df]
      have k := okm_flag k
      dsimp only
      generalize flagP l m = r at k ⊢
      obtain ⟨m, w33⟩ := r
      dsimp only at k ⊢
      refine (bindT (num24 hL hb k)).trans ?_
      rw [dn]
      have k := okm_num k
      dsimp only
      generalize numP l m = r at k ⊢
      obtain ⟨m, w34⟩ := r
      dsimp only at k ⊢
      refine (bindT (num24 hL hb k)).trans ?_
      rw [dn]
      have k := okm_num k
      dsimp only
      generalize numP l m = r at k ⊢
      obtain ⟨m, w35⟩ := r
      dsimp only at k ⊢
      refine (bindT (num24 hL hb k)).trans ?_
      rw [dn]
      have k := okm_num k
      dsimp only
      generalize numP l m = r at k ⊢
      obtain ⟨m, w36⟩ := r
      dsimp only at k ⊢
      refine (bindT (num24 hL hb k)).trans ?_
      rw [dn]
      have k := okm_num k
      dsimp only
      generalize numP l m = r at k ⊢
      obtain ⟨m, w37⟩ := r
      dsimp only at k ⊢
      refine (bindT (num24 hL hb k)).trans ?_
      rw [dn]
      have k := okm_num k
      dsimp only
      generalize numP l m = r at k ⊢
      obtain ⟨m, w38⟩ := r
      dsimp only at k ⊢
      refine (bindT (flag22 hL k)).trans ?_
      rw [df]
      have k := okm_flag k
      dsimp only
      generalize flagP l m = r at k ⊢
      obtain ⟨m, w39⟩ := r
      dsimp only at k ⊢
      refine (bindT (flag22 hL k)).trans ?_
      rw [df]
      have k := okm_flag k
      dsimp only
      generalize flagP l m = r at k ⊢
      obtain ⟨m, w40⟩ := r
      dsimp only at k ⊢
      rw [decL]
      obtain ⟨m2, he⟩ := end25 (l := l) (m := m)
      refine (bindT he).trans ?_
      dsimp only [finM, finS]
      generalize endP l m = r
      obtain ⟨e, q⟩ := r
      dsimp only
      cases hz : (e != 0)
      · refine (bifF rfl).trans ?_
        simp only [cond_false, stS, List.getD_cons_succ, List.getD_cons_zero, fl]
      · rfl
    · refine (bifF (by rw [decide_eq_false_iff_not]; exact hb2)).trans ?_
      rw [show decide (IntKind.u32.wrap w29 = w29) = true from by rw [decide_eq_true_eq, wu32]; omega, cond_true]
      refine (bindT (num24 hL hb k)).trans ?_
      rw [dn]
      have k := okm_num k
      dsimp only
      generalize numP l m = r at k ⊢
      obtain ⟨m, w30⟩ := r
      dsimp only at k ⊢
      refine (bindT (num24 hL hb k)).trans ?_
      rw [dn]
      have k := okm_num k
      dsimp only
      generalize numP l m = r at k ⊢
      obtain ⟨m, w31⟩ := r
      dsimp only at k ⊢
      refine (bindT (flag22 hL k)).trans ?_
      rw [df]
      have k := okm_flag k
      dsimp only
      generalize flagP l m = r at k ⊢
      obtain ⟨m, w32⟩ := r
      dsimp only at k ⊢
      refine (bindT (flag22 hL k)).trans ?_
      rw [df]
      have k := okm_flag k
      dsimp only
      generalize flagP l m = r at k ⊢
      obtain ⟨m, w33⟩ := r
      dsimp only at k ⊢
      refine (bindT (num24 hL hb k)).trans ?_
      rw [dn]
      have k := okm_num k
      dsimp only
      generalize numP l m = r at k ⊢
      obtain ⟨m, w34⟩ := r
      dsimp only at k ⊢
      refine (bindT (num24 hL hb k)).trans ?_
      rw [dn]
      have k := okm_num k
      dsimp only
      generalize numP l m = r at k ⊢
      obtain ⟨m, w35⟩ := r
      dsimp only at k ⊢
      refine (bindT (num24 hL hb k)).trans ?_
      rw [dn]
      have k := okm_num k
      dsimp only
      generalize numP l m = r at k ⊢
      obtain ⟨m, w36⟩ := r
      dsimp only at k ⊢
      refine (bindT (num24 hL hb k)).trans ?_
      rw [dn]
      have k := okm_num k
      dsimp only
      generalize numP l m = r at k ⊢
      obtain ⟨m, w37⟩ := r
      dsimp only at k ⊢
      refine (bindT (num24 hL hb k)).trans ?_
      rw [dn]
      have k := okm_num k
      dsimp only
      generalize numP l m = r at k ⊢
      obtain ⟨m, w38⟩ := r
      dsimp only at k ⊢
      refine (bindT (flag22 hL k)).trans ?_
      rw [df]
      have k := okm_flag k
      dsimp only
      generalize flagP l m = r at k ⊢
      obtain ⟨m, w39⟩ := r
      dsimp only at k ⊢
      refine (bindT (flag22 hL k)).trans ?_
      rw [df]
      have k := okm_flag k
      dsimp only
      generalize flagP l m = r at k ⊢
      obtain ⟨m, w40⟩ := r
      dsimp only at k ⊢
      rw [decL]
      obtain ⟨m2, he⟩ := end25 (l := l) (m := m)
      refine (bindT he).trans ?_
      dsimp only [finM, finS]
      generalize endP l m = r
      obtain ⟨e, q⟩ := r
      dsimp only
      cases hz : (e != 0)
      · refine (bifF rfl).trans ?_
        simp only [cond_false, stS, List.getD_cons_succ, List.getD_cons_zero, fl]
      · rfl
end Go.Proofs.Ytkmhaoibmmcagaa
