/- What functions of this program tell of their arguments: for each a law, and that the function keeps to it. -/
import Derived.Test.YtnbgchkilpocmaaLawsa
set_option linter.unusedVariables false
set_option linter.unusedSimpArgs false
set_option maxRecDepth 100000
namespace Go.Proofs.Ytnbgchkilpocmaa
open Go Go.Ab Go.Proofs
/- chicane/chicaneref08.Eval -/
noncomputable def c11 : Code := (Try.f11.body.getD .skip)
noncomputable def env11 : Env Try.prog := [s9, s28, s27, s26]
noncomputable def L11 : Loops Try.prog := []
theorem L11_fit : (L11).fit c11 := Loops.fit_nil
noncomputable def law11 (m : Mx1T) (x : ((List DotT) × Int × Unit)) : Option (Mx1T × (Int × Unit)) := (bif (↑(List.length x.fst) : Int) == 0 then some (((m.fst, ()), 0, ())) else (bif decide (0 ≤ IntKind.i64.wrap ((↑(List.length x.fst) : Int) - 1)) && decide (IntKind.i64.wrap ((↑(List.length x.fst) : Int) - 1) < (↑(List.length x.fst) : Int)) then (Option.bind (x.fst[(IntKind.i64.wrap ((↑(List.length x.fst) : Int) - 1)).toNat]?) fun v0 => (bif decide (0 ≤ 0) && decide (0 < (↑(List.length x.fst) : Int)) then (Option.bind (x.fst[Int.toNat 0]?) fun v1 => (bif decide (x.snd.fst ≤ v1.fst) then (bif decide (0 ≤ 0) && decide (0 < (↑(List.length x.fst) : Int)) then (Option.bind (x.fst[Int.toNat 0]?) fun v2 => some (((m.fst, ()), v2.snd.fst, ()))) else none) else (bif decide (x.snd.fst ≥ v0.fst) then some (((m.fst, ()), v0.snd.fst, ())) else (Option.bind (fn9 x) fun v3 => (bif decide (0 ≤ v3.fst) && decide (v3.fst < (↑(List.length x.fst) : Int)) then (Option.bind (x.fst[Int.toNat v3.fst]?) fun v4 => (bif decide (0 ≤ IntKind.i64.wrap (v3.fst + 1)) && decide (IntKind.i64.wrap (v3.fst + 1) < (↑(List.length x.fst) : Int)) then (Option.bind (x.fst[(IntKind.i64.wrap (v3.fst + 1)).toNat]?) fun v5 => (Option.bind (fn28 m (x.snd.fst, v4.fst, ())) fun v6 => (Option.bind (fn28 v6.fst (v5.fst, v4.fst, ())) fun v7 => (Option.bind (fn27 v7.fst (v6.snd.fst, v7.snd)) fun v8 => (Option.bind (fn26 v8.fst (v4.snd.fst, v5.snd.fst, v8.snd)) fun v9 => some (((v9.fst.fst, ()), v9.snd.fst, ()))))))) else none)) else none))))) else none)) else none))
theorem eq11 (m : Mx1Sh.T) (x : Sh.Ts [DotSh.sl, Sh.int IntKind.i64]) : codeLawM Try.prog env11 200 (L11) Try.f11 c11 (Mx1Sh) [.sl (DotSh), .int .i64] [.int .i64] m x = law11 m x := by
  have h : codeLawM Try.prog env11 200 (L11) Try.f11 c11 (Mx1Sh) [.sl (DotSh), .int .i64] [.int .i64] m x = (bif (↑(List.length x.fst) : Int) == 0 then some (((m.fst, ()), 0, ())) else (bif decide (0 ≤ IntKind.i64.wrap ((↑(List.length x.fst) : Int) - 1)) && decide (IntKind.i64.wrap ((↑(List.length x.fst) : Int) - 1) < (↑(List.length x.fst) : Int)) then (Option.bind (x.fst[(IntKind.i64.wrap ((↑(List.length x.fst) : Int) - 1)).toNat]?) fun v0 => (bif decide (0 ≤ 0) && decide (0 < (↑(List.length x.fst) : Int)) then (Option.bind (x.fst[Int.toNat 0]?) fun v1 => (bif decide (x.snd.fst ≤ v1.fst) then (bif decide (0 ≤ 0) && decide (0 < (↑(List.length x.fst) : Int)) then (Option.bind (x.fst[Int.toNat 0]?) fun v2 => some (((m.fst, ()), v2.snd.fst, ()))) else none) else (bif decide (x.snd.fst ≥ v0.fst) then some (((m.fst, ()), v0.snd.fst, ())) else (bif decide (List.length x.fst = List.length x.fst) && true then (Option.bind (fn9 x) fun v3 => (bif decide (0 ≤ v3.fst) && decide (v3.fst < (↑(List.length x.fst) : Int)) then (Option.bind (x.fst[Int.toNat v3.fst]?) fun v4 => (bif decide (0 ≤ IntKind.i64.wrap (v3.fst + 1)) && decide (IntKind.i64.wrap (v3.fst + 1) < (↑(List.length x.fst) : Int)) then (Option.bind (x.fst[(IntKind.i64.wrap (v3.fst + 1)).toNat]?) fun v5 => (Option.bind (fn28 m (x.snd.fst, v4.fst, ())) fun v6 => (Option.bind (fn28 v6.fst (v5.fst, v4.fst, ())) fun v7 => (Option.bind (fn27 v7.fst (v6.snd.fst, v7.snd)) fun v8 => (Option.bind (fn26 v8.fst (v4.snd.fst, v5.snd.fst, v8.snd)) fun v9 => some (((v9.fst.fst, ()), v9.snd.fst, ()))))))) else none)) else none)) else none)))) else none)) else none)) := by kernel_rfl
  rw [h]
  unfold law11
  simp only [decide_self, decide_true, Nat.zero_add, Bool.and_true, Bool.true_and, cond_true]
noncomputable def fn11 (m : Mx1T) (x : ((List DotT) × Int × Unit)) : Option (Mx1T × (Int × Unit)) := law11 m x
theorem acts11 : Acts Try.prog 11 (Mx1Sh) [.sl (DotSh), .int .i64] [.int .i64] fn11 := (Acts.of_code mixed (fn := Try.f11) (c := c11) Try.func11 (by kernel_rfl) (by kernel_rfl) env11 200 (L11_fit) (by kernel_rfl) (by kernel_rfl)).to (eq11)
noncomputable def s11 : Summ Try.prog := acts11.summ (by kernel_rfl)
/- chicane/chicanelaw08.awake -/
noncomputable def c12 : Code := (Try.f12.body.getD .skip)
noncomputable def env12 : Env Try.prog := [s10, s13]
noncomputable def fn12 (x : (Unit)) : Option ((Bool × Unit)) := some (true, ())
theorem eq12 (x : Sh.Ts []) : codeLaw Try.prog env12 200 [] Try.f12 c12 [] [.bool] x = fn12 x := by kernel_rfl
theorem reads12 : Reads Try.prog 12 [] [.bool] fn12 := (Reads.of_code mixed (fn := Try.f12) (c := c12) Try.func12 (by kernel_rfl) (by kernel_rfl) env12 200 Loops.fit_nil (by kernel_rfl)).to eq12
noncomputable def s12 : Summ Try.prog := reads12.summ
/- chicane/chicanelaw08.TableEval -/
noncomputable def c3 : Code := (Try.f3.body.getD .skip)
noncomputable def env3 : Env Try.prog := [s8, s9, s10, s11, s12]
noncomputable def L3 : Loops Try.prog := []
theorem L3_fit : (L3).fit c3 := Loops.fit_nil
noncomputable def law3 (x : ((List DotT) × Int × Unit)) : Option ((Bool × Unit)) := (bif decide ((↑(List.length x.fst) : Int) > 100) then some ((true, ())) else (Option.bind (fn8 x) fun v0 => (Option.bind (fn9 x) fun v1 => (bif v0.fst == v1.fst then (Option.bind (fn10 (false, ()) x) fun v2 => (Option.bind (fn11 (false, ()) x) fun v3 => (bif v2.snd.fst == v3.snd.fst then (bif v2.fst.fst == v3.fst.fst then some ((true, ())) else some ((false, ()))) else some ((false, ()))))) else some ((false, ()))))))
theorem eq3 (x : Sh.Ts [DotSh.sl, Sh.int IntKind.i64]) : codeLaw Try.prog env3 200 (L3) Try.f3 c3 [.sl (DotSh), .int .i64] [.bool] x = law3 x := by
  have h : codeLaw Try.prog env3 200 (L3) Try.f3 c3 [.sl (DotSh), .int .i64] [.bool] x = (bif decide ((↑(List.length x.fst) : Int) > 100) then some ((true, ())) else (bif decide (List.length x.fst = List.length x.fst) && true then (Option.bind (fn8 x) fun v0 => (bif decide (List.length x.fst = List.length x.fst) && true then (Option.bind (fn9 x) fun v1 => (bif v0.fst == v1.fst then (bif decide (List.length x.fst = List.length x.fst) && true then (Option.bind (fn10 (false, ()) x) fun v2 => (bif decide (List.length x.fst = List.length x.fst) && true then (Option.bind (fn11 (false, ()) x) fun v3 => (bif v2.snd.fst == v3.snd.fst then (bif v2.fst.fst == v3.fst.fst then some ((true, ())) else some ((false, ()))) else some ((false, ())))) else none)) else none) else some ((false, ())))) else none)) else none)) := by kernel_rfl
  rw [h]
  unfold law3
  simp only [decide_self, decide_true, Nat.zero_add, Bool.and_true, Bool.true_and, cond_true]
noncomputable def fn3 (x : ((List DotT) × Int × Unit)) : Option ((Bool × Unit)) := law3 x
theorem reads3 : Reads Try.prog 3 [.sl (DotSh), .int .i64] [.bool] fn3 := (Reads.of_code mixed (fn := Try.f3) (c := c3) Try.func3 (by kernel_rfl) (by kernel_rfl) env3 200 (L3_fit) (by kernel_rfl)).to (eq3)
noncomputable def s3 : Summ Try.prog := reads3.summ
/- chicane/chicanelaw08.TableRises -/
noncomputable def c4 : Code := (Try.f4.body.getD .skip)
noncomputable def env4 : Env Try.prog := [s13, s12, s10]
noncomputable def b4o0 : Code := ((kid ((subAt c4 [0, 1, 0, 1, 1]).getD .skip) 0).getD .skip)
noncomputable def kx4o0 : Exit → List Nat | .ret => [6] | .exit 0 => [0, 1, 2] | _ => []
noncomputable def Li4o0 (N0 : Nat) : Loops Try.prog := []
noncomputable def ls4o0 (N0 : Nat) : LSumm Try.prog := loopSumm mixed env4 200 (Li4o0 N0) b4o0 (Loops.fit_nil) [0, 1, 2, 7] kx4o0 (N0)
noncomputable def ln4o0 {β : Type} (N0 : Nat) (n : Nat) (t : List AV) (h : Heap) (K : Exit → List AV → Heap → Option β) : Option β := loopN Try.prog env4 (Sh.nes [.sl (DotSh), .int .i64, .int .i64]) 200 (Li4o0 N0) b4o0 [0, 1, 2, 7] kx4o0 n t h K
noncomputable def L4 (N0 : Nat) : Loops Try.prog := [([0, 1, 0, 1, 1], ls4o0 N0)]
theorem L4_fit (N0 : Nat) : (L4 N0).fit c4 := Loops.fit_cons (by kernel_rfl) (Loops.fit_nil)
noncomputable def K4 : Exit → List AV → Heap → Option (Sh.Ts [.bool]) := fun e t h => outK (P := Try.prog) Try.f4 [.bool] e t h
noncomputable def rk4o0 (N0 : Nat) : Exit → List AV → Heap → Option (Sh.Ts [.bool]) := (blkK 0 (seqK Try.prog env4 (Sh.nes [.sl (DotSh), .int .i64, .int .i64]) 197 (L4 N0) [1, 1, 1] ((subAt c4 [1, 1, 1]).getD .skip) K4))
noncomputable def t4o0 (N0 : Nat) (x : Sh.Ts [DotSh.sl, Sh.int IntKind.i64, Sh.int IntKind.i64]) (i8 : Int) : List AV := [AV.slc 0 0 (List.length x.fst) Cap.low, AV.val (Value.int IntKind.i64 x.snd.fst), AV.val (Value.int IntKind.i64 x.snd.snd.fst), AV.any, AV.any, AV.any, AV.any, AV.val (Value.int IntKind.i64 i8), AV.any, AV.any, AV.any, AV.any, AV.any, AV.any, AV.any, AV.any, AV.any, AV.any, AV.any, AV.any, AV.any, AV.any, AV.any, AV.any, AV.any, AV.any, AV.any, AV.any, AV.any, AV.any, AV.any, AV.any, AV.any, AV.any, AV.any, AV.any, AV.any, AV.any, AV.any, AV.any, AV.any, AV.any, AV.any, AV.any, AV.any, AV.any, AV.any, AV.any, AV.any, AV.any, AV.any, AV.any, AV.any, AV.any, AV.any, AV.any]
noncomputable def h4o0 (N0 : Nat) (x : Sh.Ts [DotSh.sl, Sh.int IntKind.i64, Sh.int IntKind.i64]) (i8 : Int) : Heap := [Ent.live (Blk.mk (Cells.arr (Sh.st [Sh.int IntKind.i64, Sh.int IntKind.i64]) x.fst) false none)]
noncomputable def tx4o0o0 (N0 : Nat) (x : Sh.Ts [DotSh.sl, Sh.int IntKind.i64, Sh.int IntKind.i64]) : List AV := [AV.any, AV.any, AV.any, AV.any, AV.any, AV.any, AV.val (Value.bool true), AV.any, AV.any, AV.any, AV.any, AV.any, AV.any, AV.any, AV.any, AV.any, AV.any, AV.any, AV.any, AV.any, AV.any, AV.any, AV.any, AV.any, AV.any, AV.any, AV.any, AV.any, AV.any, AV.any, AV.any, AV.any, AV.any, AV.any, AV.any, AV.any, AV.any, AV.any, AV.any, AV.any, AV.any, AV.any, AV.any, AV.any, AV.any, AV.any, AV.any, AV.any, AV.any, AV.any, AV.any, AV.any, AV.any, AV.any, AV.any, AV.any]
noncomputable def hx4o0o0 (N0 : Nat) (x : Sh.Ts [DotSh.sl, Sh.int IntKind.i64, Sh.int IntKind.i64]) : Heap := [Ent.live (Blk.mk (Cells.arr (Sh.st [Sh.int IntKind.i64, Sh.int IntKind.i64]) x.fst) false none)]
noncomputable def tx4o0o1 (N0 : Nat) (x : Sh.Ts [DotSh.sl, Sh.int IntKind.i64, Sh.int IntKind.i64]) : List AV := [AV.slc 0 0 (List.length x.fst) Cap.low, AV.val (Value.int IntKind.i64 x.snd.fst), AV.val (Value.int IntKind.i64 x.snd.snd.fst), AV.any, AV.any, AV.any, AV.any, AV.any, AV.any, AV.any, AV.any, AV.any, AV.any, AV.any, AV.any, AV.any, AV.any, AV.any, AV.any, AV.any, AV.any, AV.any, AV.any, AV.any, AV.any, AV.any, AV.any, AV.any, AV.any, AV.any, AV.any, AV.any, AV.any, AV.any, AV.any, AV.any, AV.any, AV.any, AV.any, AV.any, AV.any, AV.any, AV.any, AV.any, AV.any, AV.any, AV.any, AV.any, AV.any, AV.any, AV.any, AV.any, AV.any, AV.any, AV.any, AV.any]
noncomputable def hx4o0o1 (N0 : Nat) (x : Sh.Ts [DotSh.sl, Sh.int IntKind.i64, Sh.int IntKind.i64]) : Heap := [Ent.live (Blk.mk (Cells.arr (Sh.st [Sh.int IntKind.i64, Sh.int IntKind.i64]) x.fst) false none)]
noncomputable def law4o0 {β : Type} (N0 : Nat) (x : ((List DotT) × Int × Int × Unit)) (k0 : Option β) (k1 : Option β) : Nat → Int → Option β
  | 0, _ => none
  | n + 1, i8 => (bif decide (i8 < (↑(List.length x.fst) : Int)) then (bif decide (0 ≤ i8) && decide (i8 < (↑(List.length x.fst) : Int)) then (Option.bind x.fst[i8.toNat]? fun v9 => (bif decide (0 ≤ IntKind.i64.wrap (i8 - 1)) && decide (IntKind.i64.wrap (i8 - 1) < (↑(List.length x.fst) : Int)) then (Option.bind (x.fst[(IntKind.i64.wrap (i8 - 1)).toNat]?) fun v10 => (bif decide (v9.snd.fst < v10.snd.fst) then k0 else law4o0 N0 x k0 k1 n (IntKind.i64.wrap (i8 + 1)))) else none)) else none) else k1)
theorem leq4o0 {β : Type} (N0 : Nat) (x : Sh.Ts [DotSh.sl, Sh.int IntKind.i64, Sh.int IntKind.i64]) (K : Exit → List AV → Heap → Option β) : ∀ (n : Nat) (i8 : Int), ln4o0 N0 n (t4o0 N0 x i8) (h4o0 N0 x i8) K = law4o0 N0 x (K (Exit.ret) (tx4o0o0 N0 x) (hx4o0o0 N0 x)) (K (Exit.exit 0) (tx4o0o1 N0 x) (hx4o0o1 N0 x)) n i8
  | 0, _ => rfl
  | n + 1, i8 => by
    have h : ln4o0 N0 (n + 1) (t4o0 N0 x i8) (h4o0 N0 x i8) K = (bif decide (i8 < (↑(List.length x.fst) : Int)) then (bif decide (0 ≤ i8) && decide (i8 < (↑(List.length x.fst) : Int)) then (Option.bind x.fst[i8.toNat]? fun v9 => (bif decide (0 ≤ IntKind.i64.wrap (i8 - 1)) && decide (IntKind.i64.wrap (i8 - 1) < (↑(List.length x.fst) : Int)) then (Option.bind (x.fst[(IntKind.i64.wrap (i8 - 1)).toNat]?) fun v10 => (bif decide (v9.snd.fst < v10.snd.fst) then K (Exit.ret) (tx4o0o0 N0 x) (hx4o0o0 N0 x) else ln4o0 N0 n (t4o0 N0 x (IntKind.i64.wrap (i8 + 1))) (h4o0 N0 x (IntKind.i64.wrap (i8 + 1))) K)) else none)) else none) else K (Exit.exit 0) (tx4o0o1 N0 x) (hx4o0o1 N0 x)) := by kernel_rfl
    rw [h]
    simp only [decide_self, decide_true, Nat.zero_add, Bool.and_true, Bool.true_and, cond_true, law4o0, leq4o0 N0 x K n]
theorem rest4o0o0 (N0 : Nat) (x : Sh.Ts [DotSh.sl, Sh.int IntKind.i64, Sh.int IntKind.i64]) : rk4o0 N0 (Exit.ret) (tx4o0o0 N0 x) (hx4o0o0 N0 x) = some ((true, ())) := by kernel_rfl
theorem rest4o0o1 (N0 : Nat) (x : Sh.Ts [DotSh.sl, Sh.int IntKind.i64, Sh.int IntKind.i64]) : rk4o0 N0 (Exit.exit 0) (tx4o0o1 N0 x) (hx4o0o1 N0 x) = (bif decide (List.length x.fst = List.length x.fst) then (Option.bind (fn10 (false, ()) (x.fst, x.snd.fst, ())) fun v11 => (bif decide (List.length x.fst = List.length x.fst) then (Option.bind (fn10 v11.fst (x.fst, x.snd.snd)) fun v12 => (bif decide (v11.snd.fst ≤ v12.snd.fst) then some ((true, ())) else some ((false, ())))) else none)) else none) := by
  have h : rk4o0 N0 (Exit.exit 0) (tx4o0o1 N0 x) (hx4o0o1 N0 x) = (bif decide (List.length x.fst = List.length x.fst) && true then (Option.bind (fn10 (false, ()) (x.fst, x.snd.fst, ())) fun v11 => (bif decide (List.length x.fst = List.length x.fst) && true then (Option.bind (fn10 v11.fst (x.fst, x.snd.snd)) fun v12 => (bif decide (v11.snd.fst ≤ v12.snd.fst) then some ((true, ())) else some ((false, ())))) else none)) else none) := by kernel_rfl
  rw [h]
  simp only [decide_self, decide_true, Nat.zero_add, Bool.and_true, Bool.true_and, cond_true, leq4o0, rest4o0o0]
noncomputable def law4 (N0 : Nat) (x : ((List DotT) × Int × Int × Unit)) : Option ((Bool × Unit)) := (bif decide ((↑(List.length x.fst) : Int) > 100) then some ((true, ())) else (Option.bind (fn13 (x.fst, ())) fun v0 => (bif v0.fst != 0 then some ((true, ())) else (bif decide (x.snd.fst > x.snd.snd.fst) then some ((true, ())) else (law4o0 N0 x (some ((true, ()))) ((bif decide (List.length x.fst = List.length x.fst) then (Option.bind (fn10 (false, ()) (x.fst, x.snd.fst, ())) fun v11 => (bif decide (List.length x.fst = List.length x.fst) then (Option.bind (fn10 v11.fst (x.fst, x.snd.snd)) fun v12 => (bif decide (v11.snd.fst ≤ v12.snd.fst) then some ((true, ())) else some ((false, ())))) else none)) else none)) N0 1)))))
theorem eq4 (N0 : Nat) (x : Sh.Ts [DotSh.sl, Sh.int IntKind.i64, Sh.int IntKind.i64]) : codeLaw Try.prog env4 200 (L4 N0) Try.f4 c4 [.sl (DotSh), .int .i64, .int .i64] [.bool] x = law4 N0 x := by
  have h : codeLaw Try.prog env4 200 (L4 N0) Try.f4 c4 [.sl (DotSh), .int .i64, .int .i64] [.bool] x = (bif decide ((↑(List.length x.fst) : Int) > 100) then some ((true, ())) else (bif decide (List.length x.fst = List.length x.fst) && true then (Option.bind (fn13 (x.fst, ())) fun v0 => (bif v0.fst != 0 then some ((true, ())) else (bif decide (x.snd.fst > x.snd.snd.fst) then some ((true, ())) else (ln4o0 N0 N0 (t4o0 N0 x 1) (h4o0 N0 x 1) (rk4o0 N0))))) else none)) := by kernel_rfl
  rw [h]
  unfold law4
  simp only [decide_self, decide_true, Nat.zero_add, Bool.and_true, Bool.true_and, cond_true, leq4o0, rest4o0o0, rest4o0o1]
noncomputable def fn4 (x : ((List DotT) × Int × Int × Unit)) : Option ((Bool × Unit)) := law4 (10 ^ 30) x
theorem reads4 : Reads Try.prog 4 [.sl (DotSh), .int .i64, .int .i64] [.bool] fn4 := (Reads.of_code mixed (fn := Try.f4) (c := c4) Try.func4 (by kernel_rfl) (by kernel_rfl) env4 200 (L4_fit _) (by kernel_rfl)).to (eq4 _)
noncomputable def s4 : Summ Try.prog := reads4.summ
/- chicane/chicanelaw08.TablePoints -/
noncomputable def c5 : Code := (Try.f5.body.getD .skip)
noncomputable def env5 : Env Try.prog := [s13, s12, s10]
noncomputable def b5o0 : Code := ((kid ((subAt c5 [0, 1, 0, 1, 1, 1]).getD .skip) 0).getD .skip)
noncomputable def kx5o0 : Exit → List Nat | .ret => [2] | _ => []
noncomputable def Li5o0 (N0 : Nat) : Loops Try.prog := []
noncomputable def ls5o0 (N0 : Nat) : LSumm Try.prog := loopSumm mixed env5 200 (Li5o0 N0) b5o0 (Loops.fit_nil) [0, 3, 4] kx5o0 (N0)
noncomputable def ln5o0 {β : Type} (N0 : Nat) (n : Nat) (t : List AV) (h : Heap) (K : Exit → List AV → Heap → Option β) : Option β := loopN Try.prog env5 (Sh.nes [.sl (DotSh)]) 200 (Li5o0 N0) b5o0 [0, 3, 4] kx5o0 n t h K
noncomputable def L5 (N0 : Nat) : Loops Try.prog := [([0, 1, 0, 1, 1, 1], ls5o0 N0)]
theorem L5_fit (N0 : Nat) : (L5 N0).fit c5 := Loops.fit_cons (by kernel_rfl) (Loops.fit_nil)
noncomputable def K5 : Exit → List AV → Heap → Option (Sh.Ts [.bool]) := fun e t h => outK (P := Try.prog) Try.f5 [.bool] e t h
noncomputable def rk5o0 (N0 : Nat) : Exit → List AV → Heap → Option (Sh.Ts [.bool]) := (blkK 0 (seqK Try.prog env5 (Sh.nes [.sl (DotSh)]) 196 (L5 N0) [1, 1, 1, 1] ((subAt c5 [1, 1, 1, 1]).getD .skip) K5))
noncomputable def t5o0 (N0 : Nat) (x : Sh.Ts [DotSh.sl]) (i8 : Int) (i9 : Bool) : List AV := [AV.slc 0 0 (List.length x.fst) Cap.low, AV.any, AV.any, AV.ptr 1 0, AV.val (Value.int IntKind.i64 i8), AV.any, AV.any, AV.any, AV.any, AV.any, AV.any, AV.any, AV.any, AV.any, AV.any, AV.any, AV.any, AV.any, AV.any, AV.any, AV.any, AV.any, AV.any, AV.any, AV.any, AV.any, AV.any, AV.any, AV.any, AV.any, AV.any, AV.any, AV.any, AV.any, AV.any, AV.any, AV.any]
noncomputable def h5o0 (N0 : Nat) (x : Sh.Ts [DotSh.sl]) (i8 : Int) (i9 : Bool) : Heap := [Ent.live (Blk.mk (Cells.arr (Sh.st [Sh.int IntKind.i64, Sh.int IntKind.i64]) x.fst) false none), Ent.live (Blk.mk (Cells.lit [AV.val (Value.bool i9)]) true none)]
noncomputable def tx5o0o0 (N0 : Nat) (x : Sh.Ts [DotSh.sl]) : List AV := [AV.any, AV.any, AV.val (Value.bool false), AV.any, AV.any, AV.any, AV.any, AV.any, AV.any, AV.any, AV.any, AV.any, AV.any, AV.any, AV.any, AV.any, AV.any, AV.any, AV.any, AV.any, AV.any, AV.any, AV.any, AV.any, AV.any, AV.any, AV.any, AV.any, AV.any, AV.any, AV.any, AV.any, AV.any, AV.any, AV.any, AV.any, AV.any]
noncomputable def hx5o0o0 (N0 : Nat) (x : Sh.Ts [DotSh.sl]) : Heap := [Ent.live (Blk.mk (Cells.arr (Sh.st [Sh.int IntKind.i64, Sh.int IntKind.i64]) x.fst) false none)]
noncomputable def tx5o0o1 (N0 : Nat) (x : Sh.Ts [DotSh.sl]) : List AV := [AV.any, AV.any, AV.any, AV.any, AV.any, AV.any, AV.any, AV.any, AV.any, AV.any, AV.any, AV.any, AV.any, AV.any, AV.any, AV.any, AV.any, AV.any, AV.any, AV.any, AV.any, AV.any, AV.any, AV.any, AV.any, AV.any, AV.any, AV.any, AV.any, AV.any, AV.any, AV.any, AV.any, AV.any, AV.any, AV.any, AV.any]
noncomputable def hx5o0o1 (N0 : Nat) (x : Sh.Ts [DotSh.sl]) : Heap := [Ent.live (Blk.mk (Cells.arr (Sh.st [Sh.int IntKind.i64, Sh.int IntKind.i64]) x.fst) false none)]
noncomputable def law5o0 {β : Type} (N0 : Nat) (x : ((List DotT) × Unit)) (k0 : Option β) (k1 : Option β) : Nat → Int → Bool → Option β
  | 0, _, _ => none
  | n + 1, i8, i9 => (bif decide (i8 < (↑(List.length x.fst) : Int)) then (bif decide (0 ≤ i8) && decide (i8 < (↑(List.length x.fst) : Int)) then (Option.bind x.fst[i8.toNat]? fun v10 => (bif decide (List.length x.fst = List.length x.fst) then (Option.bind (fn10 (i9, ()) (x.fst, v10.fst, ())) fun v11 => (bif decide (0 ≤ i8) && decide (i8 < (↑(List.length x.fst) : Int)) then (Option.bind x.fst[i8.toNat]? fun v12 => (bif v11.snd.fst != v12.snd.fst then k0 else law5o0 N0 x k0 k1 n (IntKind.i64.wrap (i8 + 1)) v11.fst.fst)) else none)) else none)) else none) else k1)
theorem leq5o0 {β : Type} (N0 : Nat) (x : Sh.Ts [DotSh.sl]) (K : Exit → List AV → Heap → Option β) : ∀ (n : Nat) (i8 : Int) (i9 : Bool), ln5o0 N0 n (t5o0 N0 x i8 i9) (h5o0 N0 x i8 i9) K = law5o0 N0 x (K (Exit.ret) (tx5o0o0 N0 x) (hx5o0o0 N0 x)) (K (Exit.exit 0) (tx5o0o1 N0 x) (hx5o0o1 N0 x)) n i8 i9
  | 0, _, _ => rfl
  | n + 1, i8, i9 => by
    have h : ln5o0 N0 (n + 1) (t5o0 N0 x i8 i9) (h5o0 N0 x i8 i9) K = (bif decide (i8 < (↑(List.length x.fst) : Int)) then (bif decide (0 ≤ i8) && decide (i8 < (↑(List.length x.fst) : Int)) then (Option.bind x.fst[i8.toNat]? fun v10 => (bif decide (List.length x.fst = List.length x.fst) && true then (Option.bind (fn10 (i9, ()) (x.fst, v10.fst, ())) fun v11 => (bif decide (0 ≤ i8) && decide (i8 < (↑(List.length x.fst) : Int)) then (Option.bind x.fst[i8.toNat]? fun v12 => (bif v11.snd.fst != v12.snd.fst then K (Exit.ret) (tx5o0o0 N0 x) (hx5o0o0 N0 x) else ln5o0 N0 n (t5o0 N0 x (IntKind.i64.wrap (i8 + 1)) v11.fst.fst) (h5o0 N0 x (IntKind.i64.wrap (i8 + 1)) v11.fst.fst) K)) else none)) else none)) else none) else K (Exit.exit 0) (tx5o0o1 N0 x) (hx5o0o1 N0 x)) := by kernel_rfl
    rw [h]
    simp only [decide_self, decide_true, Nat.zero_add, Bool.and_true, Bool.true_and, cond_true, law5o0, leq5o0 N0 x K n]
theorem rest5o0o0 (N0 : Nat) (x : Sh.Ts [DotSh.sl]) : rk5o0 N0 (Exit.ret) (tx5o0o0 N0 x) (hx5o0o0 N0 x) = some ((false, ())) := by kernel_rfl
theorem rest5o0o1 (N0 : Nat) (x : Sh.Ts [DotSh.sl]) : rk5o0 N0 (Exit.exit 0) (tx5o0o1 N0 x) (hx5o0o1 N0 x) = some ((true, ())) := by kernel_rfl
noncomputable def law5 (N0 : Nat) (x : ((List DotT) × Unit)) : Option ((Bool × Unit)) := (bif decide ((↑(List.length x.fst) : Int) > 100) then some ((true, ())) else (Option.bind (fn13 x) fun v0 => (bif v0.fst != 0 then some ((true, ())) else (law5o0 N0 x (some ((false, ()))) (some ((true, ()))) N0 0 false))))
theorem eq5 (N0 : Nat) (x : Sh.Ts [DotSh.sl]) : codeLaw Try.prog env5 200 (L5 N0) Try.f5 c5 [.sl (DotSh)] [.bool] x = law5 N0 x := by
  have h : codeLaw Try.prog env5 200 (L5 N0) Try.f5 c5 [.sl (DotSh)] [.bool] x = (bif decide ((↑(List.length x.fst) : Int) > 100) then some ((true, ())) else (bif decide (List.length x.fst = List.length x.fst) && true then (Option.bind (fn13 x) fun v0 => (bif v0.fst != 0 then some ((true, ())) else (ln5o0 N0 N0 (t5o0 N0 x 0 false) (h5o0 N0 x 0 false) (rk5o0 N0)))) else none)) := by kernel_rfl
  rw [h]
  unfold law5
  simp only [decide_self, decide_true, Nat.zero_add, Bool.and_true, Bool.true_and, cond_true, leq5o0, rest5o0o0, rest5o0o1]
noncomputable def fn5 (x : ((List DotT) × Unit)) : Option ((Bool × Unit)) := law5 (10 ^ 30) x
theorem reads5 : Reads Try.prog 5 [.sl (DotSh)] [.bool] fn5 := (Reads.of_code mixed (fn := Try.f5) (c := c5) Try.func5 (by kernel_rfl) (by kernel_rfl) env5 200 (L5_fit _) (by kernel_rfl)).to (eq5 _)
noncomputable def s5 : Summ Try.prog := reads5.summ
/- chicane/table.Bound -/
noncomputable def c15 : Code := (Try.f15.body.getD .skip)
noncomputable def env15 : Env Try.prog := []
noncomputable def b15o0 : Code := ((kid ((subAt c15 [0, 1, 0, 1, 1]).getD .skip) 0).getD .skip)
noncomputable def kx15o0 : Exit → List Nat | .ret => [2] | .exit 0 => [3] | _ => []
noncomputable def Li15o0 (N0 : Nat) : Loops Try.prog := []
noncomputable def ls15o0 (N0 : Nat) : LSumm Try.prog := loopSumm mixed env15 200 (Li15o0 N0) b15o0 (Loops.fit_nil) [3, 6, 7, 8] kx15o0 (N0)
noncomputable def ln15o0 {β : Type} (N0 : Nat) (n : Nat) (t : List AV) (h : Heap) (K : Exit → List AV → Heap → Option β) : Option β := loopN Try.prog env15 (Sh.nes [.sl (DotSh)]) 200 (Li15o0 N0) b15o0 [3, 6, 7, 8] kx15o0 n t h K
noncomputable def L15 (N0 : Nat) : Loops Try.prog := [([0, 1, 0, 1, 1], ls15o0 N0)]
theorem L15_fit (N0 : Nat) : (L15 N0).fit c15 := Loops.fit_cons (by kernel_rfl) (Loops.fit_nil)
noncomputable def K15 : Exit → List AV → Heap → Option (Sh.Ts [.int .i64]) := fun e t h => outK (P := Try.prog) Try.f15 [.int .i64] e t h
noncomputable def rk15o0 (N0 : Nat) : Exit → List AV → Heap → Option (Sh.Ts [.int .i64]) := (blkK 0 (seqK Try.prog env15 (Sh.nes [.sl (DotSh)]) 197 (L15 N0) [1, 1, 1] ((subAt c15 [1, 1, 1]).getD .skip) K15))
noncomputable def t15o0 (N0 : Nat) (x : Sh.Ts [DotSh.sl]) (i6 : Int) (i7 : Int) : List AV := [AV.any, AV.any, AV.any, AV.val (Value.int IntKind.i64 i6), AV.any, AV.any, AV.slc 0 0 (List.length x.fst) Cap.low, AV.val (Value.int IntKind.i64 (↑(List.length x.fst) : Int)), AV.val (Value.int IntKind.i64 i7), AV.any, AV.any, AV.any, AV.any, AV.any, AV.any, AV.any, AV.any, AV.any, AV.any, AV.any, AV.any]
noncomputable def h15o0 (N0 : Nat) (x : Sh.Ts [DotSh.sl]) (i6 : Int) (i7 : Int) : Heap := [Ent.live (Blk.mk (Cells.arr (Sh.st [Sh.int IntKind.i64, Sh.int IntKind.i64]) x.fst) false none)]
noncomputable def tx15o0o0 (N0 : Nat) (x : Sh.Ts [DotSh.sl]) (w9 : Int) : List AV := [AV.any, AV.any, AV.any, AV.val (Value.int IntKind.i64 w9), AV.any, AV.any, AV.any, AV.any, AV.any, AV.any, AV.any, AV.any, AV.any, AV.any, AV.any, AV.any, AV.any, AV.any, AV.any, AV.any, AV.any]
noncomputable def hx15o0o0 (N0 : Nat) (x : Sh.Ts [DotSh.sl]) (w9 : Int) : Heap := [Ent.live (Blk.mk (Cells.arr (Sh.st [Sh.int IntKind.i64, Sh.int IntKind.i64]) x.fst) false none)]
noncomputable def law15o0 {β : Type} (N0 : Nat) (x : ((List DotT) × Unit)) (k0 : Int → Option β) : Nat → Int → Int → Option β
  | 0, _, _ => none
  | n + 1, i6, i7 => (bif decide (i7 < (↑(List.length x.fst) : Int)) then (bif decide (0 ≤ i7) && decide (i7 < (↑(List.length x.fst) : Int)) then (Option.bind x.fst[i7.toNat]? fun v8 => law15o0 N0 x k0 n (if IntKind.i64.wrap (0 - v8.snd.fst) > if v8.snd.fst > i6 then v8.snd.fst else i6 then IntKind.i64.wrap (0 - v8.snd.fst) else if v8.snd.fst > i6 then v8.snd.fst else i6) (IntKind.i64.wrap (i7 + 1))) else none) else k0 i6)
theorem leq15o0 {β : Type} (N0 : Nat) (x : Sh.Ts [DotSh.sl]) (K : Exit → List AV → Heap → Option β) : ∀ (n : Nat) (i6 : Int) (i7 : Int), ln15o0 N0 n (t15o0 N0 x i6 i7) (h15o0 N0 x i6 i7) K = law15o0 N0 x (fun w9 => K (Exit.exit 0) (tx15o0o0 N0 x w9) (hx15o0o0 N0 x w9)) n i6 i7
  | 0, _, _ => rfl
  | n + 1, i6, i7 => by
    have h : ln15o0 N0 (n + 1) (t15o0 N0 x i6 i7) (h15o0 N0 x i6 i7) K = (bif decide (i7 < (↑(List.length x.fst) : Int)) then (bif decide (0 ≤ i7) && decide (i7 < (↑(List.length x.fst) : Int)) then (Option.bind x.fst[i7.toNat]? fun v8 => ln15o0 N0 n (t15o0 N0 x (if IntKind.i64.wrap (0 - v8.snd.fst) > if v8.snd.fst > i6 then v8.snd.fst else i6 then IntKind.i64.wrap (0 - v8.snd.fst) else if v8.snd.fst > i6 then v8.snd.fst else i6) (IntKind.i64.wrap (i7 + 1))) (h15o0 N0 x (if IntKind.i64.wrap (0 - v8.snd.fst) > if v8.snd.fst > i6 then v8.snd.fst else i6 then IntKind.i64.wrap (0 - v8.snd.fst) else if v8.snd.fst > i6 then v8.snd.fst else i6) (IntKind.i64.wrap (i7 + 1))) K) else none) else K (Exit.exit 0) (tx15o0o0 N0 x i6) (hx15o0o0 N0 x i6)) := by kernel_rfl
    rw [h]
    simp only [decide_self, decide_true, Nat.zero_add, Bool.and_true, Bool.true_and, cond_true, law15o0, leq15o0 N0 x K n]
theorem rest15o0o0 (N0 : Nat) (x : Sh.Ts [DotSh.sl]) (w10 : Int) : rk15o0 N0 (Exit.exit 0) (tx15o0o0 N0 x w10) (hx15o0o0 N0 x w10) = some ((w10, ())) := by kernel_rfl
noncomputable def law15 (N0 : Nat) (x : ((List DotT) × Unit)) : Option ((Int × Unit)) := (law15o0 N0 x (fun w10 => some ((w10, ()))) N0 0 0)
theorem eq15 (N0 : Nat) (x : Sh.Ts [DotSh.sl]) : codeLaw Try.prog env15 200 (L15 N0) Try.f15 c15 [.sl (DotSh)] [.int .i64] x = law15 N0 x := by
  have h : codeLaw Try.prog env15 200 (L15 N0) Try.f15 c15 [.sl (DotSh)] [.int .i64] x = (ln15o0 N0 N0 (t15o0 N0 x 0 0) (h15o0 N0 x 0 0) (rk15o0 N0)) := by kernel_rfl
  rw [h]
  unfold law15
  simp only [decide_self, decide_true, Nat.zero_add, Bool.and_true, Bool.true_and, cond_true, leq15o0, rest15o0o0]
noncomputable def fn15 (x : ((List DotT) × Unit)) : Option ((Int × Unit)) := law15 (10 ^ 30) x
theorem reads15 : Reads Try.prog 15 [.sl (DotSh)] [.int .i64] fn15 := (Reads.of_code mixed (fn := Try.f15) (c := c15) Try.func15 (by kernel_rfl) (by kernel_rfl) env15 200 (L15_fit _) (by kernel_rfl)).to (eq15 _)
noncomputable def s15 : Summ Try.prog := reads15.summ
/- chicane/chicaneref08.Bound -/
noncomputable def c16 : Code := (Try.f16.body.getD .skip)
noncomputable def env16 : Env Try.prog := []
noncomputable def b16o0 : Code := ((kid ((subAt c16 [0, 1, 0, 1, 1]).getD .skip) 0).getD .skip)
noncomputable def kx16o0 : Exit → List Nat | .ret => [2] | .exit 0 => [3] | _ => []
noncomputable def Li16o0 (N0 : Nat) : Loops Try.prog := []
noncomputable def ls16o0 (N0 : Nat) : LSumm Try.prog := loopSumm mixed env16 200 (Li16o0 N0) b16o0 (Loops.fit_nil) [0, 3, 4] kx16o0 (N0)
noncomputable def ln16o0 {β : Type} (N0 : Nat) (n : Nat) (t : List AV) (h : Heap) (K : Exit → List AV → Heap → Option β) : Option β := loopN Try.prog env16 (Sh.nes [.sl (DotSh)]) 200 (Li16o0 N0) b16o0 [0, 3, 4] kx16o0 n t h K
noncomputable def L16 (N0 : Nat) : Loops Try.prog := [([0, 1, 0, 1, 1], ls16o0 N0)]
theorem L16_fit (N0 : Nat) : (L16 N0).fit c16 := Loops.fit_cons (by kernel_rfl) (Loops.fit_nil)
noncomputable def K16 : Exit → List AV → Heap → Option (Sh.Ts [.int .i64]) := fun e t h => outK (P := Try.prog) Try.f16 [.int .i64] e t h
noncomputable def rk16o0 (N0 : Nat) : Exit → List AV → Heap → Option (Sh.Ts [.int .i64]) := (blkK 0 (seqK Try.prog env16 (Sh.nes [.sl (DotSh)]) 197 (L16 N0) [1, 1, 1] ((subAt c16 [1, 1, 1]).getD .skip) K16))
noncomputable def t16o0 (N0 : Nat) (x : Sh.Ts [DotSh.sl]) (i6 : Int) (i7 : Int) : List AV := [AV.slc 0 0 (List.length x.fst) Cap.low, AV.any, AV.any, AV.val (Value.int IntKind.i64 i6), AV.val (Value.int IntKind.i64 i7), AV.any, AV.any, AV.any, AV.any, AV.any, AV.any, AV.any, AV.any, AV.any, AV.any, AV.any, AV.any, AV.any, AV.any, AV.any, AV.any, AV.any, AV.any, AV.any, AV.any]
noncomputable def h16o0 (N0 : Nat) (x : Sh.Ts [DotSh.sl]) (i6 : Int) (i7 : Int) : Heap := [Ent.live (Blk.mk (Cells.arr (Sh.st [Sh.int IntKind.i64, Sh.int IntKind.i64]) x.fst) false none)]
noncomputable def tx16o0o0 (N0 : Nat) (x : Sh.Ts [DotSh.sl]) (w10 : Int) : List AV := [AV.any, AV.any, AV.any, AV.val (Value.int IntKind.i64 w10), AV.any, AV.any, AV.any, AV.any, AV.any, AV.any, AV.any, AV.any, AV.any, AV.any, AV.any, AV.any, AV.any, AV.any, AV.any, AV.any, AV.any, AV.any, AV.any, AV.any, AV.any]
noncomputable def hx16o0o0 (N0 : Nat) (x : Sh.Ts [DotSh.sl]) (w10 : Int) : Heap := [Ent.live (Blk.mk (Cells.arr (Sh.st [Sh.int IntKind.i64, Sh.int IntKind.i64]) x.fst) false none)]
noncomputable def law16o0 {β : Type} (N0 : Nat) (x : ((List DotT) × Unit)) (k0 : Int → Option β) : Nat → Int → Int → Option β
  | 0, _, _ => none
  | n + 1, i6, i7 => (bif decide (i7 < (↑(List.length x.fst) : Int)) then (bif decide (0 ≤ i7) && decide (i7 < (↑(List.length x.fst) : Int)) then (Option.bind x.fst[i7.toNat]? fun v8 => (bif decide (0 ≤ i7) && decide (i7 < (↑(List.length x.fst) : Int)) then (Option.bind x.fst[i7.toNat]? fun v9 => law16o0 N0 x k0 n (if IntKind.i64.wrap (0 - v9.snd.fst) > if v8.snd.fst > i6 then v8.snd.fst else i6 then IntKind.i64.wrap (0 - v9.snd.fst) else if v8.snd.fst > i6 then v8.snd.fst else i6) (IntKind.i64.wrap (i7 + 1))) else none)) else none) else k0 i6)
theorem leq16o0 {β : Type} (N0 : Nat) (x : Sh.Ts [DotSh.sl]) (K : Exit → List AV → Heap → Option β) : ∀ (n : Nat) (i6 : Int) (i7 : Int), ln16o0 N0 n (t16o0 N0 x i6 i7) (h16o0 N0 x i6 i7) K = law16o0 N0 x (fun w10 => K (Exit.exit 0) (tx16o0o0 N0 x w10) (hx16o0o0 N0 x w10)) n i6 i7
  | 0, _, _ => rfl
  | n + 1, i6, i7 => by
    have h : ln16o0 N0 (n + 1) (t16o0 N0 x i6 i7) (h16o0 N0 x i6 i7) K = (bif decide (i7 < (↑(List.length x.fst) : Int)) then (bif decide (0 ≤ i7) && decide (i7 < (↑(List.length x.fst) : Int)) then (Option.bind x.fst[i7.toNat]? fun v8 => (bif decide (0 ≤ i7) && decide (i7 < (↑(List.length x.fst) : Int)) then (Option.bind x.fst[i7.toNat]? fun v9 => ln16o0 N0 n (t16o0 N0 x (if IntKind.i64.wrap (0 - v9.snd.fst) > if v8.snd.fst > i6 then v8.snd.fst else i6 then IntKind.i64.wrap (0 - v9.snd.fst) else if v8.snd.fst > i6 then v8.snd.fst else i6) (IntKind.i64.wrap (i7 + 1))) (h16o0 N0 x (if IntKind.i64.wrap (0 - v9.snd.fst) > if v8.snd.fst > i6 then v8.snd.fst else i6 then IntKind.i64.wrap (0 - v9.snd.fst) else if v8.snd.fst > i6 then v8.snd.fst else i6) (IntKind.i64.wrap (i7 + 1))) K) else none)) else none) else K (Exit.exit 0) (tx16o0o0 N0 x i6) (hx16o0o0 N0 x i6)) := by kernel_rfl
    rw [h]
    simp only [decide_self, decide_true, Nat.zero_add, Bool.and_true, Bool.true_and, cond_true, law16o0, leq16o0 N0 x K n]
theorem rest16o0o0 (N0 : Nat) (x : Sh.Ts [DotSh.sl]) (w11 : Int) : rk16o0 N0 (Exit.exit 0) (tx16o0o0 N0 x w11) (hx16o0o0 N0 x w11) = some ((w11, ())) := by kernel_rfl
noncomputable def law16 (N0 : Nat) (x : ((List DotT) × Unit)) : Option ((Int × Unit)) := (law16o0 N0 x (fun w11 => some ((w11, ()))) N0 0 0)
theorem eq16 (N0 : Nat) (x : Sh.Ts [DotSh.sl]) : codeLaw Try.prog env16 200 (L16 N0) Try.f16 c16 [.sl (DotSh)] [.int .i64] x = law16 N0 x := by
  have h : codeLaw Try.prog env16 200 (L16 N0) Try.f16 c16 [.sl (DotSh)] [.int .i64] x = (ln16o0 N0 N0 (t16o0 N0 x 0 0) (h16o0 N0 x 0 0) (rk16o0 N0)) := by kernel_rfl
  rw [h]
  unfold law16
  simp only [decide_self, decide_true, Nat.zero_add, Bool.and_true, Bool.true_and, cond_true, leq16o0, rest16o0o0]
noncomputable def fn16 (x : ((List DotT) × Unit)) : Option ((Int × Unit)) := law16 (10 ^ 30) x
theorem reads16 : Reads Try.prog 16 [.sl (DotSh)] [.int .i64] fn16 := (Reads.of_code mixed (fn := Try.f16) (c := c16) Try.func16 (by kernel_rfl) (by kernel_rfl) env16 200 (L16_fit _) (by kernel_rfl)).to (eq16 _)
noncomputable def s16 : Summ Try.prog := reads16.summ
/- chicane/chicanelaw08.TableRight -/
noncomputable def c6 : Code := (Try.f6.body.getD .skip)
noncomputable def env6 : Env Try.prog := [s13, s14, s15, s16, s12]
noncomputable def L6 : Loops Try.prog := []
theorem L6_fit : (L6).fit c6 := Loops.fit_nil
noncomputable def law6 (x : ((List DotT) × Unit)) : Option ((Bool × Unit)) := (bif decide ((↑(List.length x.fst) : Int) > 100) then some ((true, ())) else (Option.bind (fn13 x) fun v0 => (Option.bind (fn14 x) fun v1 => (bif v0.fst == v1.fst then (Option.bind (fn13 x) fun v2 => (bif v2.fst != 0 then some ((true, ())) else (Option.bind (fn15 x) fun v3 => (Option.bind (fn16 x) fun v4 => (bif v3.fst == v4.fst then some ((true, ())) else some ((false, ()))))))) else some ((false, ()))))))
theorem eq6 (x : Sh.Ts [DotSh.sl]) : codeLaw Try.prog env6 200 (L6) Try.f6 c6 [.sl (DotSh)] [.bool] x = law6 x := by
  have h : codeLaw Try.prog env6 200 (L6) Try.f6 c6 [.sl (DotSh)] [.bool] x = (bif decide ((↑(List.length x.fst) : Int) > 100) then some ((true, ())) else (bif decide (List.length x.fst = List.length x.fst) && true then (Option.bind (fn13 x) fun v0 => (bif decide (List.length x.fst = List.length x.fst) && true then (Option.bind (fn14 x) fun v1 => (bif v0.fst == v1.fst then (bif decide (List.length x.fst = List.length x.fst) && true then (Option.bind (fn13 x) fun v2 => (bif v2.fst != 0 then some ((true, ())) else (bif decide (List.length x.fst = List.length x.fst) && true then (Option.bind (fn15 x) fun v3 => (bif decide (List.length x.fst = List.length x.fst) && true then (Option.bind (fn16 x) fun v4 => (bif v3.fst == v4.fst then some ((true, ())) else some ((false, ())))) else none)) else none))) else none) else some ((false, ())))) else none)) else none)) := by kernel_rfl
  rw [h]
  unfold law6
  simp only [decide_self, decide_true, Nat.zero_add, Bool.and_true, Bool.true_and, cond_true]
noncomputable def fn6 (x : ((List DotT) × Unit)) : Option ((Bool × Unit)) := law6 x
theorem reads6 : Reads Try.prog 6 [.sl (DotSh)] [.bool] fn6 := (Reads.of_code mixed (fn := Try.f6) (c := c6) Try.func6 (by kernel_rfl) (by kernel_rfl) env6 200 (L6_fit) (by kernel_rfl)).to (eq6)
noncomputable def s6 : Summ Try.prog := reads6.summ
/- chicane/chicanelaw08.TableBetween -/
noncomputable def c7 : Code := (Try.f7.body.getD .skip)
noncomputable def env7 : Env Try.prog := [s13, s12, s10, s8, s17, s15]
noncomputable def L7 : Loops Try.prog := []
theorem L7_fit : (L7).fit c7 := Loops.fit_nil
noncomputable def law7 (x : ((List DotT) × Int × Unit)) : Option ((Bool × Unit)) := (bif decide ((↑(List.length x.fst) : Int) > 100) then some ((true, ())) else (Option.bind (fn13 (x.fst, ())) fun v0 => (bif v0.fst != 0 then some ((true, ())) else (bif decide ((↑(List.length x.fst) : Int) < 2) then some ((true, ())) else (Option.bind (fn10 (false, ()) x) fun v1 => (Option.bind (fn8 x) fun v2 => (bif decide (v2.fst < 0) then some ((false, ())) else (bif decide (v2.fst > IntKind.i64.wrap ((↑(List.length x.fst) : Int) - 2)) then some ((false, ())) else (bif !v1.fst.fst then (bif decide (0 ≤ v2.fst) && decide (v2.fst < (↑(List.length x.fst) : Int)) then (Option.bind (x.fst[Int.toNat v2.fst]?) fun v3 => (bif decide (0 ≤ IntKind.i64.wrap (v2.fst + 1)) && decide (IntKind.i64.wrap (v2.fst + 1) < (↑(List.length x.fst) : Int)) then (Option.bind (x.fst[(IntKind.i64.wrap (v2.fst + 1)).toNat]?) fun v4 => (bif decide (v1.snd.fst ≥ if v4.snd.fst < v3.snd.fst then v4.snd.fst else v3.snd.fst) then (bif decide (0 ≤ v2.fst) && decide (v2.fst < (↑(List.length x.fst) : Int)) then (Option.bind (x.fst[Int.toNat v2.fst]?) fun v5 => (bif decide (0 ≤ IntKind.i64.wrap (v2.fst + 1)) && decide (IntKind.i64.wrap (v2.fst + 1) < (↑(List.length x.fst) : Int)) then (Option.bind (x.fst[(IntKind.i64.wrap (v2.fst + 1)).toNat]?) fun v6 => (bif decide (v1.snd.fst ≤ if v6.snd.fst > v5.snd.fst then v6.snd.fst else v5.snd.fst) then (Option.bind (fn17 v1.fst v1.snd) fun v7 => (Option.bind (fn15 (x.fst, ())) fun v8 => (bif decide (v7.snd.fst ≤ v8.fst) then some ((true, ())) else some ((false, ()))))) else some ((false, ())))) else none)) else none) else some ((false, ())))) else none)) else none) else some ((false, ())))))))))))
theorem eq7 (x : Sh.Ts [DotSh.sl, Sh.int IntKind.i64]) : codeLaw Try.prog env7 200 (L7) Try.f7 c7 [.sl (DotSh), .int .i64] [.bool] x = law7 x := by
  have h : codeLaw Try.prog env7 200 (L7) Try.f7 c7 [.sl (DotSh), .int .i64] [.bool] x = (bif decide ((↑(List.length x.fst) : Int) > 100) then some ((true, ())) else (bif decide (List.length x.fst = List.length x.fst) && true then (Option.bind (fn13 (x.fst, ())) fun v0 => (bif v0.fst != 0 then some ((true, ())) else (bif decide ((↑(List.length x.fst) : Int) < 2) then some ((true, ())) else (bif decide (List.length x.fst = List.length x.fst) && true then (Option.bind (fn10 (false, ()) x) fun v1 => (bif decide (List.length x.fst = List.length x.fst) && true then (Option.bind (fn8 x) fun v2 => (bif decide (v2.fst < 0) then some ((false, ())) else (bif decide (v2.fst > IntKind.i64.wrap ((↑(List.length x.fst) : Int) - 2)) then some ((false, ())) else (bif !v1.fst.fst then (bif decide (0 ≤ v2.fst) && decide (v2.fst < (↑(List.length x.fst) : Int)) then (Option.bind (x.fst[Int.toNat v2.fst]?) fun v3 => (bif decide (0 ≤ IntKind.i64.wrap (v2.fst + 1)) && decide (IntKind.i64.wrap (v2.fst + 1) < (↑(List.length x.fst) : Int)) then (Option.bind (x.fst[(IntKind.i64.wrap (v2.fst + 1)).toNat]?) fun v4 => (bif decide (v1.snd.fst ≥ if v4.snd.fst < v3.snd.fst then v4.snd.fst else v3.snd.fst) then (bif decide (0 ≤ v2.fst) && decide (v2.fst < (↑(List.length x.fst) : Int)) then (Option.bind (x.fst[Int.toNat v2.fst]?) fun v5 => (bif decide (0 ≤ IntKind.i64.wrap (v2.fst + 1)) && decide (IntKind.i64.wrap (v2.fst + 1) < (↑(List.length x.fst) : Int)) then (Option.bind (x.fst[(IntKind.i64.wrap (v2.fst + 1)).toNat]?) fun v6 => (bif decide (v1.snd.fst ≤ if v6.snd.fst > v5.snd.fst then v6.snd.fst else v5.snd.fst) then (Option.bind (fn17 v1.fst v1.snd) fun v7 => (bif decide (List.length x.fst = List.length x.fst) && true then (Option.bind (fn15 (x.fst, ())) fun v8 => (bif decide (v7.snd.fst ≤ v8.fst) then some ((true, ())) else some ((false, ())))) else none)) else some ((false, ())))) else none)) else none) else some ((false, ())))) else none)) else none) else some ((false, ())))))) else none)) else none)))) else none)) := by kernel_rfl
  rw [h]
  unfold law7
  simp only [decide_self, decide_true, Nat.zero_add, Bool.and_true, Bool.true_and, cond_true]
noncomputable def fn7 (x : ((List DotT) × Int × Unit)) : Option ((Bool × Unit)) := law7 x
theorem reads7 : Reads Try.prog 7 [.sl (DotSh), .int .i64] [.bool] fn7 := (Reads.of_code mixed (fn := Try.f7) (c := c7) Try.func7 (by kernel_rfl) (by kernel_rfl) env7 200 (L7_fit) (by kernel_rfl)).to (eq7)
noncomputable def s7 : Summ Try.prog := reads7.summ
end Go.Proofs.Ytnbgchkilpocmaa
