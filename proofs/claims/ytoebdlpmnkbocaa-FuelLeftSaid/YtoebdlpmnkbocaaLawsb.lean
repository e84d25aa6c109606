/- What functions of this program tell of their arguments: for each a law, and that the function keeps to it. -/
import Derived.Test.YtoebdlpmnkbocaaLawsa
set_option linter.unusedVariables false
set_option linter.unusedSimpArgs false
set_option maxRecDepth 100000
namespace Go.Proofs.Ytoebdlpmnkbocaa
open Go Go.Ab Go.Proofs
/- chicane/chicaneref08.Right -/
noncomputable def c24 : Code := (Try.f24.body.getD .skip)
noncomputable def env24 : Env Try.prog := [s36]
noncomputable def b24o0 : Code := ((kid ((subAt c24 [0, 1, 0, 1, 1]).getD .skip) 0).getD .skip)
noncomputable def kx24o0 : Exit → List Nat | .ret => [2] | _ => []
noncomputable def Li24o0 (N0 : Nat) : Loops Try.prog := []
noncomputable def ls24o0 (N0 : Nat) : LSumm Try.prog := loopSumm mixed env24 200 (Li24o0 N0) b24o0 (Loops.fit_nil) [0, 3] kx24o0 (N0)
noncomputable def ln24o0 {β : Type} (N0 : Nat) (n : Nat) (t : List AV) (h : Heap) (K : Exit → List AV → Heap → Option β) : Option β := loopN Try.prog env24 (Sh.nes [.sl (DotSh)]) 200 (Li24o0 N0) b24o0 [0, 3] kx24o0 n t h K
noncomputable def L24 (N0 : Nat) : Loops Try.prog := [([0, 1, 0, 1, 1], ls24o0 N0)]
theorem L24_fit (N0 : Nat) : (L24 N0).fit c24 := Loops.fit_cons (by kernel_rfl) (Loops.fit_nil)
noncomputable def K24 : Exit → List AV → Heap → Option (Sh.Ts [.int .i64]) := fun e t h => outK (P := Try.prog) Try.f24 [.int .i64] e t h
noncomputable def rk24o0 (N0 : Nat) : Exit → List AV → Heap → Option (Sh.Ts [.int .i64]) := (blkK 0 (seqK Try.prog env24 (Sh.nes [.sl (DotSh)]) 197 (L24 N0) [1, 1, 1] ((subAt c24 [1, 1, 1]).getD .skip) K24))
noncomputable def t24o0 (N0 : Nat) (x : Sh.Ts [DotSh.sl]) (i9 : Int) : List AV := [AV.slc 0 0 (List.length x.fst) Cap.low, AV.any, AV.any, AV.val (Value.int IntKind.i64 i9), AV.any, AV.any, AV.any, AV.any, AV.any, AV.any, AV.any, AV.any, AV.any, AV.any, AV.any, AV.any, AV.any, AV.any, AV.any, AV.any, AV.any, AV.any, AV.any, AV.any, AV.any, AV.any, AV.any, AV.any, AV.any, AV.any, AV.any, AV.any, AV.any, AV.any, AV.any, AV.any, AV.any, AV.any, AV.any, AV.any, AV.any, AV.any, AV.any, AV.any, AV.any, AV.any, AV.any, AV.any, AV.any, AV.any]
noncomputable def h24o0 (N0 : Nat) (x : Sh.Ts [DotSh.sl]) (i9 : Int) : Heap := [Ent.live (Blk.mk (Cells.arr (Sh.st [Sh.int IntKind.i64, Sh.int IntKind.i64]) x.fst) false none)]
noncomputable def tx24o0o0 (N0 : Nat) (x : Sh.Ts [DotSh.sl]) (w16 : Int) : List AV := [AV.any, AV.any, AV.val (Value.int IntKind.i64 w16), AV.any, AV.any, AV.any, AV.any, AV.any, AV.any, AV.any, AV.any, AV.any, AV.any, AV.any, AV.any, AV.any, AV.any, AV.any, AV.any, AV.any, AV.any, AV.any, AV.any, AV.any, AV.any, AV.any, AV.any, AV.any, AV.any, AV.any, AV.any, AV.any, AV.any, AV.any, AV.any, AV.any, AV.any, AV.any, AV.any, AV.any, AV.any, AV.any, AV.any, AV.any, AV.any, AV.any, AV.any, AV.any, AV.any, AV.any]
noncomputable def hx24o0o0 (N0 : Nat) (x : Sh.Ts [DotSh.sl]) (w16 : Int) : Heap := [Ent.live (Blk.mk (Cells.arr (Sh.st [Sh.int IntKind.i64, Sh.int IntKind.i64]) x.fst) false none)]
noncomputable def tx24o0o1 (N0 : Nat) (x : Sh.Ts [DotSh.sl]) : List AV := [AV.any, AV.any, AV.any, AV.any, AV.any, AV.any, AV.any, AV.any, AV.any, AV.any, AV.any, AV.any, AV.any, AV.any, AV.any, AV.any, AV.any, AV.any, AV.any, AV.any, AV.any, AV.any, AV.any, AV.any, AV.any, AV.any, AV.any, AV.any, AV.any, AV.any, AV.any, AV.any, AV.any, AV.any, AV.any, AV.any, AV.any, AV.any, AV.any, AV.any, AV.any, AV.any, AV.any, AV.any, AV.any, AV.any, AV.any, AV.any, AV.any, AV.any]
noncomputable def hx24o0o1 (N0 : Nat) (x : Sh.Ts [DotSh.sl]) : Heap := [Ent.live (Blk.mk (Cells.arr (Sh.st [Sh.int IntKind.i64, Sh.int IntKind.i64]) x.fst) false none)]
noncomputable def law24o0 {β : Type} (N0 : Nat) (x : ((List DotT) × Unit)) (k0 : Int → Option β) (k1 : Option β) : Nat → Int → Option β
  | 0, _ => none
  | n + 1, i9 => (bif decide (i9 < (↑(List.length x.fst) : Int)) then (bif decide (0 ≤ i9) && decide (i9 < (↑(List.length x.fst) : Int)) then (Option.bind x.fst[i9.toNat]? fun v10 => (Option.bind (fn36 (v10.fst, 4503599627370496, ())) fun v11 => (bif !v11.fst then k0 40 else (bif decide (0 ≤ i9) && decide (i9 < (↑(List.length x.fst) : Int)) then (Option.bind x.fst[i9.toNat]? fun v12 => (Option.bind (fn36 (v12.snd.fst, 4503599627370496, ())) fun v13 => (bif !v13.fst then k0 40 else (bif decide (i9 > 0) then (bif decide (0 ≤ i9) && decide (i9 < (↑(List.length x.fst) : Int)) then (Option.bind x.fst[i9.toNat]? fun v14 => (bif decide (0 ≤ IntKind.i64.wrap (i9 - 1)) && decide (IntKind.i64.wrap (i9 - 1) < (↑(List.length x.fst) : Int)) then (Option.bind (x.fst[(IntKind.i64.wrap (i9 - 1)).toNat]?) fun v15 => (bif decide (v14.fst ≤ v15.fst) then k0 41 else law24o0 N0 x k0 k1 n (IntKind.i64.wrap (i9 + 1)))) else none)) else none) else law24o0 N0 x k0 k1 n (IntKind.i64.wrap (i9 + 1)))))) else none)))) else none) else k1)
theorem leq24o0 {β : Type} (N0 : Nat) (x : Sh.Ts [DotSh.sl]) (K : Exit → List AV → Heap → Option β) : ∀ (n : Nat) (i9 : Int), ln24o0 N0 n (t24o0 N0 x i9) (h24o0 N0 x i9) K = law24o0 N0 x (fun w16 => K (Exit.ret) (tx24o0o0 N0 x w16) (hx24o0o0 N0 x w16)) (K (Exit.exit 0) (tx24o0o1 N0 x) (hx24o0o1 N0 x)) n i9
  | 0, _ => rfl
  | n + 1, i9 => by
    have h : ln24o0 N0 (n + 1) (t24o0 N0 x i9) (h24o0 N0 x i9) K = (bif decide (i9 < (↑(List.length x.fst) : Int)) then (bif decide (0 ≤ i9) && decide (i9 < (↑(List.length x.fst) : Int)) then (Option.bind x.fst[i9.toNat]? fun v10 => (Option.bind (fn36 (v10.fst, 4503599627370496, ())) fun v11 => (bif !v11.fst then K (Exit.ret) (tx24o0o0 N0 x 40) (hx24o0o0 N0 x 40) else (bif decide (0 ≤ i9) && decide (i9 < (↑(List.length x.fst) : Int)) then (Option.bind x.fst[i9.toNat]? fun v12 => (Option.bind (fn36 (v12.snd.fst, 4503599627370496, ())) fun v13 => (bif !v13.fst then K (Exit.ret) (tx24o0o0 N0 x 40) (hx24o0o0 N0 x 40) else (bif decide (i9 > 0) then (bif decide (0 ≤ i9) && decide (i9 < (↑(List.length x.fst) : Int)) then (Option.bind x.fst[i9.toNat]? fun v14 => (bif decide (0 ≤ IntKind.i64.wrap (i9 - 1)) && decide (IntKind.i64.wrap (i9 - 1) < (↑(List.length x.fst) : Int)) then (Option.bind (x.fst[(IntKind.i64.wrap (i9 - 1)).toNat]?) fun v15 => (bif decide (v14.fst ≤ v15.fst) then K (Exit.ret) (tx24o0o0 N0 x 41) (hx24o0o0 N0 x 41) else ln24o0 N0 n (t24o0 N0 x (IntKind.i64.wrap (i9 + 1))) (h24o0 N0 x (IntKind.i64.wrap (i9 + 1))) K)) else none)) else none) else ln24o0 N0 n (t24o0 N0 x (IntKind.i64.wrap (i9 + 1))) (h24o0 N0 x (IntKind.i64.wrap (i9 + 1))) K)))) else none)))) else none) else K (Exit.exit 0) (tx24o0o1 N0 x) (hx24o0o1 N0 x)) := by kernel_rfl
    rw [h]
    simp only [decide_self, decide_true, Nat.zero_add, Bool.and_true, Bool.true_and, cond_true, law24o0, leq24o0 N0 x K n]
theorem rest24o0o0 (N0 : Nat) (x : Sh.Ts [DotSh.sl]) (w17 : Int) : rk24o0 N0 (Exit.ret) (tx24o0o0 N0 x w17) (hx24o0o0 N0 x w17) = some ((w17, ())) := by kernel_rfl
theorem rest24o0o1 (N0 : Nat) (x : Sh.Ts [DotSh.sl]) : rk24o0 N0 (Exit.exit 0) (tx24o0o1 N0 x) (hx24o0o1 N0 x) = some ((0, ())) := by kernel_rfl
noncomputable def law24 (N0 : Nat) (x : ((List DotT) × Unit)) : Option ((Int × Unit)) := (bif decide ((↑(List.length x.fst) : Int) < 2) then some ((42, ())) else (bif decide ((↑(List.length x.fst) : Int) > 32) then some ((42, ())) else (law24o0 N0 x (fun w17 => some ((w17, ()))) (some ((0, ()))) N0 0)))
theorem eq24 (N0 : Nat) (x : Sh.Ts [DotSh.sl]) : codeLaw Try.prog env24 200 (L24 N0) Try.f24 c24 [.sl (DotSh)] [.int .i64] x = law24 N0 x := by
  have h : codeLaw Try.prog env24 200 (L24 N0) Try.f24 c24 [.sl (DotSh)] [.int .i64] x = (bif decide ((↑(List.length x.fst) : Int) < 2) then some ((42, ())) else (bif decide ((↑(List.length x.fst) : Int) > 32) then some ((42, ())) else (ln24o0 N0 N0 (t24o0 N0 x 0) (h24o0 N0 x 0) (rk24o0 N0)))) := by kernel_rfl
  rw [h]
  unfold law24
  simp only [decide_self, decide_true, Nat.zero_add, Bool.and_true, Bool.true_and, cond_true, leq24o0, rest24o0o0, rest24o0o1]
noncomputable def fn24 (x : ((List DotT) × Unit)) : Option ((Int × Unit)) := law24 (10 ^ 30) x
theorem reads24 : Reads Try.prog 24 [.sl (DotSh)] [.int .i64] fn24 := (Reads.of_code mixed (fn := Try.f24) (c := c24) Try.func24 (by kernel_rfl) (by kernel_rfl) env24 200 (L24_fit _) (by kernel_rfl)).to (eq24 _)
noncomputable def s24 : Summ Try.prog := reads24.summ
/- chicane/fx.Clamp -/
noncomputable def c28 : Code := (Try.f28.body.getD .skip)
noncomputable def env28 : Env Try.prog := []
noncomputable def L28 : Loops Try.prog := []
theorem L28_fit : (L28).fit c28 := Loops.fit_nil
noncomputable def law28 (x : (Int × Int × Int × Unit)) : Option ((Int × Unit)) := (bif decide (x.fst < x.snd.fst) then some ((x.snd.fst, ())) else (bif decide (x.fst > x.snd.snd.fst) then some ((x.snd.snd.fst, ())) else some ((x.fst, ()))))
theorem eq28 (x : Sh.Ts [Sh.int IntKind.i64, Sh.int IntKind.i64, Sh.int IntKind.i64]) : codeLaw Try.prog env28 200 (L28) Try.f28 c28 [.int .i64, .int .i64, .int .i64] [.int .i64] x = law28 x := by kernel_rfl
noncomputable def fn28 (x : (Int × Int × Int × Unit)) : Option ((Int × Unit)) := law28 x
theorem reads28 : Reads Try.prog 28 [.int .i64, .int .i64, .int .i64] [.int .i64] fn28 := (Reads.of_code mixed (fn := Try.f28) (c := c28) Try.func28 (by kernel_rfl) (by kernel_rfl) env28 200 (L28_fit) (by kernel_rfl)).to (eq28)
noncomputable def s28 : Summ Try.prog := reads28.summ
/- chicane/chicaneref02.Clamp -/
noncomputable def c32 : Code := (Try.f32.body.getD .skip)
noncomputable def env32 : Env Try.prog := []
noncomputable def L32 : Loops Try.prog := []
theorem L32_fit : (L32).fit c32 := Loops.fit_nil
noncomputable def law32 (x : (Int × Int × Int × Unit)) : Option ((Int × Unit)) := (bif decide (x.fst < x.snd.fst) then some ((x.snd.fst, ())) else (bif decide (x.fst > x.snd.snd.fst) then some ((x.snd.snd.fst, ())) else some ((x.fst, ()))))
theorem eq32 (x : Sh.Ts [Sh.int IntKind.i64, Sh.int IntKind.i64, Sh.int IntKind.i64]) : codeLaw Try.prog env32 200 (L32) Try.f32 c32 [.int .i64, .int .i64, .int .i64] [.int .i64] x = law32 x := by kernel_rfl
noncomputable def fn32 (x : (Int × Int × Int × Unit)) : Option ((Int × Unit)) := law32 x
theorem reads32 : Reads Try.prog 32 [.int .i64, .int .i64, .int .i64] [.int .i64] fn32 := (Reads.of_code mixed (fn := Try.f32) (c := c32) Try.func32 (by kernel_rfl) (by kernel_rfl) env32 200 (L32_fit) (by kernel_rfl)).to (eq32)
noncomputable def s32 : Summ Try.prog := reads32.summ
/- chicane/fuel.unit -/
noncomputable def c23 : Code := (Try.f23.body.getD .skip)
noncomputable def env23 : Env Try.prog := []
noncomputable def b23o0 : Code := ((kid ((subAt c23 [0, 1, 0, 1]).getD .skip) 0).getD .skip)
noncomputable def kx23o0 : Exit → List Nat | .ret => [2] | _ => []
noncomputable def Li23o0 (N0 : Nat) : Loops Try.prog := []
noncomputable def ls23o0 (N0 : Nat) : LSumm Try.prog := loopSumm mixed env23 200 (Li23o0 N0) b23o0 (Loops.fit_nil) [5, 6, 7] kx23o0 (N0)
noncomputable def ln23o0 {β : Type} (N0 : Nat) (n : Nat) (t : List AV) (h : Heap) (K : Exit → List AV → Heap → Option β) : Option β := loopN Try.prog env23 (Sh.nes [.sl (.int .i64)]) 200 (Li23o0 N0) b23o0 [5, 6, 7] kx23o0 n t h K
noncomputable def L23 (N0 : Nat) : Loops Try.prog := [([0, 1, 0, 1], ls23o0 N0)]
theorem L23_fit (N0 : Nat) : (L23 N0).fit c23 := Loops.fit_cons (by kernel_rfl) (Loops.fit_nil)
noncomputable def K23 : Exit → List AV → Heap → Option (Sh.Ts [.bool]) := fun e t h => outK (P := Try.prog) Try.f23 [.bool] e t h
noncomputable def rk23o0 (N0 : Nat) : Exit → List AV → Heap → Option (Sh.Ts [.bool]) := (blkK 0 (seqK Try.prog env23 (Sh.nes [.sl (.int .i64)]) 198 (L23 N0) [1, 1] ((subAt c23 [1, 1]).getD .skip) K23))
noncomputable def t23o0 (N0 : Nat) (x : Sh.Ts [(Sh.int IntKind.i64).sl]) (i5 : Int) : List AV := [AV.any, AV.any, AV.any, AV.any, AV.any, AV.slc 0 0 (List.length x.fst) Cap.low, AV.val (Value.int IntKind.i64 (↑(List.length x.fst) : Int)), AV.val (Value.int IntKind.i64 i5), AV.any, AV.any, AV.any, AV.any, AV.any, AV.any, AV.any, AV.any, AV.any, AV.any]
noncomputable def h23o0 (N0 : Nat) (x : Sh.Ts [(Sh.int IntKind.i64).sl]) (i5 : Int) : Heap := [Ent.live (Blk.mk (Cells.arr (Sh.int IntKind.i64) x.fst) false none)]
noncomputable def tx23o0o0 (N0 : Nat) (x : Sh.Ts [(Sh.int IntKind.i64).sl]) : List AV := [AV.any, AV.any, AV.val (Value.bool false), AV.any, AV.any, AV.any, AV.any, AV.any, AV.any, AV.any, AV.any, AV.any, AV.any, AV.any, AV.any, AV.any, AV.any, AV.any]
noncomputable def hx23o0o0 (N0 : Nat) (x : Sh.Ts [(Sh.int IntKind.i64).sl]) : Heap := [Ent.live (Blk.mk (Cells.arr (Sh.int IntKind.i64) x.fst) false none)]
noncomputable def tx23o0o1 (N0 : Nat) (x : Sh.Ts [(Sh.int IntKind.i64).sl]) : List AV := [AV.any, AV.any, AV.any, AV.any, AV.any, AV.any, AV.any, AV.any, AV.any, AV.any, AV.any, AV.any, AV.any, AV.any, AV.any, AV.any, AV.any, AV.any]
noncomputable def hx23o0o1 (N0 : Nat) (x : Sh.Ts [(Sh.int IntKind.i64).sl]) : Heap := [Ent.live (Blk.mk (Cells.arr (Sh.int IntKind.i64) x.fst) false none)]
noncomputable def law23o0 {β : Type} (N0 : Nat) (x : ((List Int) × Unit)) (k0 : Option β) (k1 : Option β) : Nat → Int → Option β
  | 0, _ => none
  | n + 1, i5 => (bif decide (i5 < (↑(List.length x.fst) : Int)) then (bif decide (0 ≤ i5) && decide (i5 < (↑(List.length x.fst) : Int)) then (Option.bind x.fst[i5.toNat]? fun v6 => (bif decide (v6 < 0) then k0 else (bif decide (v6 > 4294967296) then k0 else law23o0 N0 x k0 k1 n (IntKind.i64.wrap (i5 + 1))))) else none) else k1)
theorem leq23o0 {β : Type} (N0 : Nat) (x : Sh.Ts [(Sh.int IntKind.i64).sl]) (K : Exit → List AV → Heap → Option β) : ∀ (n : Nat) (i5 : Int), ln23o0 N0 n (t23o0 N0 x i5) (h23o0 N0 x i5) K = law23o0 N0 x (K (Exit.ret) (tx23o0o0 N0 x) (hx23o0o0 N0 x)) (K (Exit.exit 0) (tx23o0o1 N0 x) (hx23o0o1 N0 x)) n i5
  | 0, _ => rfl
  | n + 1, i5 => by
    have h : ln23o0 N0 (n + 1) (t23o0 N0 x i5) (h23o0 N0 x i5) K = (bif decide (i5 < (↑(List.length x.fst) : Int)) then (bif decide (0 ≤ i5) && decide (i5 < (↑(List.length x.fst) : Int)) then (Option.bind (x.fst[0 + i5.toNat]?) fun v6 => (bif decide (v6 < 0) then K (Exit.ret) (tx23o0o0 N0 x) (hx23o0o0 N0 x) else (bif decide (v6 > 4294967296) then K (Exit.ret) (tx23o0o0 N0 x) (hx23o0o0 N0 x) else ln23o0 N0 n (t23o0 N0 x (IntKind.i64.wrap (i5 + 1))) (h23o0 N0 x (IntKind.i64.wrap (i5 + 1))) K))) else none) else K (Exit.exit 0) (tx23o0o1 N0 x) (hx23o0o1 N0 x)) := by kernel_rfl
    rw [h]
    simp only [decide_self, decide_true, Nat.zero_add, Bool.and_true, Bool.true_and, cond_true, law23o0, leq23o0 N0 x K n]
theorem rest23o0o0 (N0 : Nat) (x : Sh.Ts [(Sh.int IntKind.i64).sl]) : rk23o0 N0 (Exit.ret) (tx23o0o0 N0 x) (hx23o0o0 N0 x) = some ((false, ())) := by kernel_rfl
theorem rest23o0o1 (N0 : Nat) (x : Sh.Ts [(Sh.int IntKind.i64).sl]) : rk23o0 N0 (Exit.exit 0) (tx23o0o1 N0 x) (hx23o0o1 N0 x) = some ((true, ())) := by kernel_rfl
noncomputable def law23 (N0 : Nat) (x : ((List Int) × Unit)) : Option ((Bool × Unit)) := (law23o0 N0 x (some ((false, ()))) (some ((true, ()))) N0 0)
theorem eq23 (N0 : Nat) (x : Sh.Ts [(Sh.int IntKind.i64).sl]) : codeLaw Try.prog env23 200 (L23 N0) Try.f23 c23 [.sl (.int .i64)] [.bool] x = law23 N0 x := by
  have h : codeLaw Try.prog env23 200 (L23 N0) Try.f23 c23 [.sl (.int .i64)] [.bool] x = (ln23o0 N0 N0 (t23o0 N0 x 0) (h23o0 N0 x 0) (rk23o0 N0)) := by kernel_rfl
  rw [h]
  unfold law23
  simp only [decide_self, decide_true, Nat.zero_add, Bool.and_true, Bool.true_and, cond_true, leq23o0, rest23o0o0, rest23o0o1]
noncomputable def fn23 (x : ((List Int) × Unit)) : Option ((Bool × Unit)) := law23 (10 ^ 30) x
theorem reads23 : Reads Try.prog 23 [.sl (.int .i64)] [.bool] fn23 := (Reads.of_code mixed (fn := Try.f23) (c := c23) Try.func23 (by kernel_rfl) (by kernel_rfl) env23 200 (L23_fit _) (by kernel_rfl)).to (eq23 _)
noncomputable def s23 : Summ Try.prog := reads23.summ
/- chicane/fuel.Right -/
noncomputable def c7 : Code := (Try.f7.body.getD .skip)
noncomputable def env7 : Env Try.prog := [s22, s23]
noncomputable def b7o0 : Code := ((kid ((subAt c7 [0, 1, 0, 1, 1, 1]).getD .skip) 0).getD .skip)
noncomputable def kx7o0 : Exit → List Nat | .ret => [2] | .exit 0 => [1, 4] | _ => []
noncomputable def Li7o0 (N0 : Nat) : Loops Try.prog := []
noncomputable def ls7o0 (N0 : Nat) : LSumm Try.prog := loopSumm mixed env7 200 (Li7o0 N0) b7o0 (Loops.fit_nil) [1, 4, 17, 18, 19] kx7o0 (Nat.succ N0)
noncomputable def ln7o0 {β : Type} (N0 : Nat) (n : Nat) (t : List AV) (h : Heap) (K : Exit → List AV → Heap → Option β) : Option β := loopN Try.prog env7 (Sh.nes [TankSh]) 200 (Li7o0 N0) b7o0 [1, 4, 17, 18, 19] kx7o0 n t h K
noncomputable def L7 (N0 : Nat) : Loops Try.prog := [([0, 1, 0, 1, 1, 1], ls7o0 N0)]
theorem L7_fit (N0 : Nat) : (L7 N0).fit c7 := Loops.fit_cons (by kernel_rfl) (Loops.fit_nil)
noncomputable def K7 : Exit → List AV → Heap → Option (Sh.Ts [.int .i64]) := fun e t h => outK (P := Try.prog) Try.f7 [.int .i64] e t h
noncomputable def rk7o0 (N0 : Nat) : Exit → List AV → Heap → Option (Sh.Ts [.int .i64]) := (blkK 0 (seqK Try.prog env7 (Sh.nes [TankSh]) 196 (L7 N0) [1, 1, 1, 1] ((subAt c7 [1, 1, 1, 1]).getD .skip) K7))
noncomputable def t7o0 (N0 : Nat) (x : Sh.Ts [TankSh]) (i13 : Nat) (i14 : Int) (i15 : List (Sh.int IntKind.i64).T) : List AV := [AV.any, AV.ptr 1 0, AV.any, AV.any, AV.slc 2 0 i13 Cap.unk, AV.any, AV.any, AV.any, AV.any, AV.any, AV.any, AV.any, AV.any, AV.any, AV.any, AV.any, AV.any, AV.slc 0 0 (List.length x.fst.snd.snd.snd.fst) Cap.low, AV.val (Value.int IntKind.i64 (↑(List.length x.fst.snd.snd.snd.fst) : Int)), AV.val (Value.int IntKind.i64 i14), AV.any, AV.any, AV.any, AV.any, AV.any, AV.any, AV.any, AV.any, AV.any, AV.any, AV.any, AV.any, AV.any, AV.any, AV.any, AV.any, AV.any, AV.any, AV.any, AV.any, AV.any, AV.any, AV.any, AV.any, AV.any, AV.any, AV.any, AV.any, AV.any, AV.any, AV.any, AV.any, AV.any, AV.any]
noncomputable def h7o0 (N0 : Nat) (x : Sh.Ts [TankSh]) (i13 : Nat) (i14 : Int) (i15 : List (Sh.int IntKind.i64).T) : Heap := [Ent.live (Blk.mk (Cells.arr (Sh.st [Sh.int IntKind.i64, Sh.int IntKind.i64]) x.fst.snd.snd.snd.fst) false none), Ent.live (Blk.mk (Cells.lit [AV.val (Value.int IntKind.i64 x.fst.fst), AV.val (Value.int IntKind.i64 x.fst.snd.fst), AV.val (Value.int IntKind.i64 x.fst.snd.snd.fst), AV.slc 0 0 (List.length x.fst.snd.snd.snd.fst) Cap.low]) true none), Ent.live (Blk.mk (Cells.arr (Sh.int IntKind.i64) i15) true (some 1))]
noncomputable def tx7o0o0 (N0 : Nat) (x : Sh.Ts [TankSh]) (w17 : Nat) (w18 : List (Sh.int IntKind.i64).T) : List AV := [AV.any, AV.ptr 1 0, AV.any, AV.any, AV.slc 2 0 w17 Cap.unk, AV.any, AV.any, AV.any, AV.any, AV.any, AV.any, AV.any, AV.any, AV.any, AV.any, AV.any, AV.any, AV.any, AV.any, AV.any, AV.any, AV.any, AV.any, AV.any, AV.any, AV.any, AV.any, AV.any, AV.any, AV.any, AV.any, AV.any, AV.any, AV.any, AV.any, AV.any, AV.any, AV.any, AV.any, AV.any, AV.any, AV.any, AV.any, AV.any, AV.any, AV.any, AV.any, AV.any, AV.any, AV.any, AV.any, AV.any, AV.any, AV.any]
noncomputable def hx7o0o0 (N0 : Nat) (x : Sh.Ts [TankSh]) (w17 : Nat) (w18 : List (Sh.int IntKind.i64).T) : Heap := [Ent.live (Blk.mk (Cells.arr (Sh.st [Sh.int IntKind.i64, Sh.int IntKind.i64]) x.fst.snd.snd.snd.fst) false none), Ent.live (Blk.mk (Cells.lit [AV.val (Value.int IntKind.i64 x.fst.fst), AV.val (Value.int IntKind.i64 x.fst.snd.fst), AV.val (Value.int IntKind.i64 x.fst.snd.snd.fst), AV.slc 0 0 (List.length x.fst.snd.snd.snd.fst) Cap.low]) true none), Ent.live (Blk.mk (Cells.arr (Sh.int IntKind.i64) w18) true (some 1))]
noncomputable def law7o0 {β : Type} (N0 : Nat) (x : (TankT × Unit)) (k0 : Nat → List Int → Option β) : Nat → Nat → Int → List Int → Option β
  | 0, _, _, _ => none
  | n + 1, i13, i14, i15 => (bif decide (i14 < (↑(List.length x.fst.snd.snd.snd.fst) : Int)) then (bif decide (0 ≤ i14) && decide (i14 < (↑(List.length x.fst.snd.snd.snd.fst) : Int)) then (Option.bind x.fst.snd.snd.snd.fst[i14.toNat]? fun v16 => (bif decide (i13 = i15.length) && (decide ((i13 + 1) * Try.prog.types[22].bytes ≤ 140737488355328) && decide (i13 + 1 ≤ 9223372036854775807)) then law7o0 N0 x k0 n (i13 + 1) (IntKind.i64.wrap (i14 + 1)) (i15.append [v16.snd.fst]) else none)) else none) else k0 i13 i15)
theorem leq7o0 {β : Type} (N0 : Nat) (x : Sh.Ts [TankSh]) (K : Exit → List AV → Heap → Option β) : ∀ (n : Nat) (i13 : Nat) (i14 : Int) (i15 : List (Sh.int IntKind.i64).T), ln7o0 N0 n (t7o0 N0 x i13 i14 i15) (h7o0 N0 x i13 i14 i15) K = law7o0 N0 x (fun w17 w18 => K (Exit.exit 0) (tx7o0o0 N0 x w17 w18) (hx7o0o0 N0 x w17 w18)) n i13 i14 i15
  | 0, _, _, _ => rfl
  | n + 1, i13, i14, i15 => by
    have h : ln7o0 N0 (n + 1) (t7o0 N0 x i13 i14 i15) (h7o0 N0 x i13 i14 i15) K = (bif decide (i14 < (↑(List.length x.fst.snd.snd.snd.fst) : Int)) then (bif decide (0 ≤ i14) && decide (i14 < (↑(List.length x.fst.snd.snd.snd.fst) : Int)) then (Option.bind x.fst.snd.snd.snd.fst[i14.toNat]? fun v16 => (bif decide (i13 = i15.length) && (decide ((i13 + 1) * Try.prog.types[22].bytes ≤ 140737488355328) && decide (i13 + 1 ≤ 9223372036854775807)) then ln7o0 N0 n (t7o0 N0 x (i13 + 1) (IntKind.i64.wrap (i14 + 1)) (i15.append [v16.snd.fst])) (h7o0 N0 x (i13 + 1) (IntKind.i64.wrap (i14 + 1)) (i15.append [v16.snd.fst])) K else none)) else none) else K (Exit.exit 0) (tx7o0o0 N0 x i13 i15) (hx7o0o0 N0 x i13 i15)) := by kernel_rfl
    rw [h]
    simp only [decide_self, decide_true, Nat.zero_add, Bool.and_true, Bool.true_and, cond_true, law7o0, leq7o0 N0 x K n]
theorem rest7o0o0 (N0 : Nat) (x : Sh.Ts [TankSh]) (w19 : Nat) (w20 : List (Sh.int IntKind.i64).T) : rk7o0 N0 (Exit.exit 0) (tx7o0o0 N0 x w19 w20) (hx7o0o0 N0 x w19 w20) = (bif decide (x.fst.snd.fst < 0) then some ((40, ())) else (bif decide (x.fst.snd.fst > 2199023255552) then some ((40, ())) else (bif decide (x.fst.fst < 0) then some ((40, ())) else (bif decide (x.fst.fst > x.fst.snd.fst) then some ((40, ())) else (bif decide (w19 = w20.length) then (Option.bind (fn23 (w20, ())) fun v21 => (bif !v21.fst then some ((40, ())) else some ((0, ())))) else none))))) := by
  have h : rk7o0 N0 (Exit.exit 0) (tx7o0o0 N0 x w19 w20) (hx7o0o0 N0 x w19 w20) = (bif decide (x.fst.snd.fst < 0) then some ((40, ())) else (bif decide (x.fst.snd.fst > 2199023255552) then some ((40, ())) else (bif decide (x.fst.fst < 0) then some ((40, ())) else (bif decide (x.fst.fst > x.fst.snd.fst) then some ((40, ())) else (bif decide (w19 = w20.length) && true then (Option.bind (fn23 (w20, ())) fun v21 => (bif !v21.fst then some ((40, ())) else some ((0, ())))) else none))))) := by kernel_rfl
  rw [h]
  simp only [decide_self, decide_true, Nat.zero_add, Bool.and_true, Bool.true_and, cond_true, leq7o0]
noncomputable def law7 (N0 : Nat) (x : (TankT × Unit)) : Option ((Int × Unit)) := (Option.bind (fn22 x.fst.snd.snd.snd) fun v0 => (bif v0.fst != 0 then some ((v0.fst, ())) else (bif decide (0 < (↑(List.length x.fst.snd.snd.snd.fst) : Int)) then (bif decide (0 ≤ 0) && decide (0 < (↑(List.length x.fst.snd.snd.snd.fst) : Int)) then (Option.bind (x.fst.snd.snd.snd.fst[Int.toNat 0]?) fun v1 => (law7o0 N0 x (fun w19 w20 => (bif decide (x.fst.snd.fst < 0) then some ((40, ())) else (bif decide (x.fst.snd.fst > 2199023255552) then some ((40, ())) else (bif decide (x.fst.fst < 0) then some ((40, ())) else (bif decide (x.fst.fst > x.fst.snd.fst) then some ((40, ())) else (bif decide (w19 = w20.length) then (Option.bind (fn23 (w20, ())) fun v21 => (bif !v21.fst then some ((40, ())) else some ((0, ())))) else none)))))) N0 2 (IntKind.i64.wrap (0 + 1)) ([x.fst.snd.snd.fst, v1.snd.fst]))) else none) else (bif decide (x.fst.snd.fst < 0) then some ((40, ())) else (bif decide (x.fst.snd.fst > 2199023255552) then some ((40, ())) else (bif decide (x.fst.fst < 0) then some ((40, ())) else (bif decide (x.fst.fst > x.fst.snd.fst) then some ((40, ())) else (Option.bind (fn23 ([x.fst.snd.snd.fst], ())) fun v22 => (bif !v22.fst then some ((40, ())) else some ((0, ())))))))))))
theorem eq7 (N0 : Nat) (x : Sh.Ts [TankSh]) : codeLaw Try.prog env7 200 (L7 N0) Try.f7 c7 [TankSh] [.int .i64] x = law7 N0 x := by
  have h : codeLaw Try.prog env7 200 (L7 N0) Try.f7 c7 [TankSh] [.int .i64] x = (bif decide (List.length x.fst.snd.snd.snd.fst = List.length x.fst.snd.snd.snd.fst) && true then (Option.bind (fn22 x.fst.snd.snd.snd) fun v0 => (bif v0.fst != 0 then some ((v0.fst, ())) else (bif decide (0 < (↑(List.length x.fst.snd.snd.snd.fst) : Int)) then (bif decide (0 ≤ 0) && decide (0 < (↑(List.length x.fst.snd.snd.snd.fst) : Int)) then (Option.bind (x.fst.snd.snd.snd.fst[Int.toNat 0]?) fun v1 => (ln7o0 N0 N0 (t7o0 N0 x 2 (IntKind.i64.wrap (0 + 1)) ([x.fst.snd.snd.fst, v1.snd.fst])) (h7o0 N0 x 2 (IntKind.i64.wrap (0 + 1)) ([x.fst.snd.snd.fst, v1.snd.fst])) (rk7o0 N0))) else none) else (bif decide (x.fst.snd.fst < 0) then some ((40, ())) else (bif decide (x.fst.snd.fst > 2199023255552) then some ((40, ())) else (bif decide (x.fst.fst < 0) then some ((40, ())) else (bif decide (x.fst.fst > x.fst.snd.fst) then some ((40, ())) else (Option.bind (fn23 ([x.fst.snd.snd.fst], ())) fun v22 => (bif !v22.fst then some ((40, ())) else some ((0, ()))))))))))) else none) := by kernel_rfl
  rw [h]
  unfold law7
  simp only [decide_self, decide_true, Nat.zero_add, Bool.and_true, Bool.true_and, cond_true, leq7o0, rest7o0o0]
noncomputable def fn7 (x : (TankT × Unit)) : Option ((Int × Unit)) := law7 (10 ^ 30) x
theorem reads7 : Reads Try.prog 7 [TankSh] [.int .i64] fn7 := (Reads.of_code mixed (fn := Try.f7) (c := c7) Try.func7 (by kernel_rfl) (by kernel_rfl) env7 200 (L7_fit _) (by kernel_rfl)).to (eq7 _)
noncomputable def s7 : Summ Try.prog := reads7.summ
/- chicane/chicanelaw45.plain -/
noncomputable def c9 : Code := (Try.f9.body.getD .skip)
noncomputable def env9 : Env Try.prog := []
noncomputable def s9 : Summ Try.prog := inlSumm allRw mixed 9 Try.f9 c9 Try.func9 (by kernel_rfl) (by kernel_rfl) env9 200 [] Loops.fit_nil
/- chicane/chicaneref45.in -/
noncomputable def c25 : Code := (Try.f25.body.getD .skip)
noncomputable def env25 : Env Try.prog := []
noncomputable def L25 : Loops Try.prog := []
theorem L25_fit : (L25).fit c25 := Loops.fit_nil
noncomputable def law25 (x : (Int × Int × Int × Unit)) : Option ((Bool × Unit)) := (bif decide (x.fst ≥ x.snd.fst) then some ((decide (x.fst ≤ x.snd.snd.fst), ())) else some ((false, ())))
theorem eq25 (x : Sh.Ts [Sh.int IntKind.i64, Sh.int IntKind.i64, Sh.int IntKind.i64]) : codeLaw Try.prog env25 200 (L25) Try.f25 c25 [.int .i64, .int .i64, .int .i64] [.bool] x = law25 x := by kernel_rfl
noncomputable def fn25 (x : (Int × Int × Int × Unit)) : Option ((Bool × Unit)) := law25 x
theorem reads25 : Reads Try.prog 25 [.int .i64, .int .i64, .int .i64] [.bool] fn25 := (Reads.of_code mixed (fn := Try.f25) (c := c25) Try.func25 (by kernel_rfl) (by kernel_rfl) env25 200 (L25_fit) (by kernel_rfl)).to (eq25)
noncomputable def s25 : Summ Try.prog := reads25.summ
/- chicane/chicaneref45.Right -/
noncomputable def c8 : Code := (Try.f8.body.getD .skip)
noncomputable def env8 : Env Try.prog := [s24, s25]
noncomputable def b8o0 : Code := ((kid ((subAt c8 [0, 1, 0, 1, 1, 1, 1]).getD .skip) 0).getD .skip)
noncomputable def kx8o0 : Exit → List Nat | .ret => [2] | .exit 0 => [4] | _ => []
noncomputable def Li8o0 (N0 : Nat) : Loops Try.prog := []
noncomputable def ls8o0 (N0 : Nat) : LSumm Try.prog := loopSumm mixed env8 200 (Li8o0 N0) b8o0 (Loops.fit_nil) [1, 4, 5] kx8o0 (N0)
noncomputable def ln8o0 {β : Type} (N0 : Nat) (n : Nat) (t : List AV) (h : Heap) (K : Exit → List AV → Heap → Option β) : Option β := loopN Try.prog env8 (Sh.nes [TSh]) 200 (Li8o0 N0) b8o0 [1, 4, 5] kx8o0 n t h K
noncomputable def L8 (N0 : Nat) : Loops Try.prog := [([0, 1, 0, 1, 1, 1, 1], ls8o0 N0)]
theorem L8_fit (N0 : Nat) : (L8 N0).fit c8 := Loops.fit_cons (by kernel_rfl) (Loops.fit_nil)
noncomputable def K8 : Exit → List AV → Heap → Option (Sh.Ts [.int .i64]) := fun e t h => outK (P := Try.prog) Try.f8 [.int .i64] e t h
noncomputable def rk8o0 (N0 : Nat) : Exit → List AV → Heap → Option (Sh.Ts [.int .i64]) := (blkK 0 (seqK Try.prog env8 (Sh.nes [TSh]) 195 (L8 N0) [1, 1, 1, 1, 1] ((subAt c8 [1, 1, 1, 1, 1]).getD .skip) K8))
noncomputable def t8o0 (N0 : Nat) (x : Sh.Ts [TSh]) (i13 : Sh.bool.T) (i14 : Int) : List AV := [AV.any, AV.ptr 1 0, AV.any, AV.any, AV.val (Value.bool i13), AV.val (Value.int IntKind.i64 i14), AV.any, AV.any, AV.any, AV.any, AV.any, AV.any, AV.any, AV.any, AV.any, AV.any, AV.any, AV.any, AV.any, AV.any, AV.any, AV.any, AV.any, AV.any, AV.any, AV.any, AV.any, AV.any, AV.any, AV.any, AV.any, AV.any, AV.any, AV.any, AV.any, AV.any, AV.any, AV.any, AV.any, AV.any, AV.any, AV.any, AV.any, AV.any, AV.any, AV.any]
noncomputable def h8o0 (N0 : Nat) (x : Sh.Ts [TSh]) (i13 : Sh.bool.T) (i14 : Int) : Heap := [Ent.live (Blk.mk (Cells.arr (Sh.st [Sh.int IntKind.i64, Sh.int IntKind.i64]) x.fst.snd.snd.snd.fst) false none), Ent.live (Blk.mk (Cells.lit [AV.val (Value.int IntKind.i64 x.fst.fst), AV.val (Value.int IntKind.i64 x.fst.snd.fst), AV.val (Value.int IntKind.i64 x.fst.snd.snd.fst), AV.slc 0 0 (List.length x.fst.snd.snd.snd.fst) Cap.low]) true none)]
noncomputable def tx8o0o0 (N0 : Nat) (x : Sh.Ts [TSh]) (w17 : Sh.bool.T) : List AV := [AV.any, AV.any, AV.any, AV.any, AV.val (Value.bool w17), AV.any, AV.any, AV.any, AV.any, AV.any, AV.any, AV.any, AV.any, AV.any, AV.any, AV.any, AV.any, AV.any, AV.any, AV.any, AV.any, AV.any, AV.any, AV.any, AV.any, AV.any, AV.any, AV.any, AV.any, AV.any, AV.any, AV.any, AV.any, AV.any, AV.any, AV.any, AV.any, AV.any, AV.any, AV.any, AV.any, AV.any, AV.any, AV.any, AV.any, AV.any]
noncomputable def hx8o0o0 (N0 : Nat) (x : Sh.Ts [TSh]) (w17 : Sh.bool.T) : Heap := [Ent.live (Blk.mk (Cells.arr (Sh.st [Sh.int IntKind.i64, Sh.int IntKind.i64]) x.fst.snd.snd.snd.fst) false none)]
noncomputable def law8o0 {β : Type} (N0 : Nat) (x : (TT × Unit)) (k0 : Bool → Option β) : Nat → Bool → Int → Option β
  | 0, _, _ => none
  | n + 1, i13, i14 => (bif decide (i14 < (↑(List.length x.fst.snd.snd.snd.fst) : Int)) then (bif i13 then (bif decide (0 ≤ i14) && decide (i14 < (↑(List.length x.fst.snd.snd.snd.fst) : Int)) then (Option.bind x.fst.snd.snd.snd.fst[i14.toNat]? fun v15 => (Option.bind (fn25 (v15.snd.fst, 0, 4294967296, ())) fun v16 => law8o0 N0 x k0 n v16.fst (IntKind.i64.wrap (i14 + 1)))) else none) else law8o0 N0 x k0 n false (IntKind.i64.wrap (i14 + 1))) else k0 i13)
theorem leq8o0 {β : Type} (N0 : Nat) (x : Sh.Ts [TSh]) (K : Exit → List AV → Heap → Option β) : ∀ (n : Nat) (i13 : Sh.bool.T) (i14 : Int), ln8o0 N0 n (t8o0 N0 x i13 i14) (h8o0 N0 x i13 i14) K = law8o0 N0 x (fun w17 => K (Exit.exit 0) (tx8o0o0 N0 x w17) (hx8o0o0 N0 x w17)) n i13 i14
  | 0, _, _ => rfl
  | n + 1, i13, i14 => by
    have h : ln8o0 N0 (n + 1) (t8o0 N0 x i13 i14) (h8o0 N0 x i13 i14) K = (bif decide (i14 < (↑(List.length x.fst.snd.snd.snd.fst) : Int)) then (bif i13 then (bif decide (0 ≤ i14) && decide (i14 < (↑(List.length x.fst.snd.snd.snd.fst) : Int)) then (Option.bind x.fst.snd.snd.snd.fst[i14.toNat]? fun v15 => (Option.bind (fn25 (v15.snd.fst, 0, 4294967296, ())) fun v16 => ln8o0 N0 n (t8o0 N0 x v16.fst (IntKind.i64.wrap (i14 + 1))) (h8o0 N0 x v16.fst (IntKind.i64.wrap (i14 + 1))) K)) else none) else ln8o0 N0 n (t8o0 N0 x false (IntKind.i64.wrap (i14 + 1))) (h8o0 N0 x false (IntKind.i64.wrap (i14 + 1))) K) else K (Exit.exit 0) (tx8o0o0 N0 x i13) (hx8o0o0 N0 x i13)) := by kernel_rfl
    rw [h]
    simp only [decide_self, decide_true, Nat.zero_add, Bool.and_true, Bool.true_and, cond_true, law8o0, leq8o0 N0 x K n]
noncomputable def t8o0o1 (N0 : Nat) (x : Sh.Ts [TSh]) (i28 : Bool) (i29 : Int) : List AV := [AV.any, AV.ptr 1 0, AV.any, AV.any, AV.val (Value.bool i28), AV.val (Value.int IntKind.i64 i29), AV.any, AV.any, AV.any, AV.any, AV.any, AV.any, AV.any, AV.any, AV.any, AV.any, AV.any, AV.any, AV.any, AV.any, AV.any, AV.any, AV.any, AV.any, AV.any, AV.any, AV.any, AV.any, AV.any, AV.any, AV.any, AV.any, AV.any, AV.any, AV.any, AV.any, AV.any, AV.any, AV.any, AV.any, AV.any, AV.any, AV.any, AV.any, AV.any, AV.any]
noncomputable def h8o0o1 (N0 : Nat) (x : Sh.Ts [TSh]) (i28 : Bool) (i29 : Int) : Heap := [Ent.live (Blk.mk (Cells.arr (Sh.st [Sh.int IntKind.i64, Sh.int IntKind.i64]) x.fst.snd.snd.snd.fst) false none), Ent.live (Blk.mk (Cells.lit [AV.val (Value.int IntKind.i64 x.fst.fst), AV.val (Value.int IntKind.i64 x.fst.snd.fst), AV.val (Value.int IntKind.i64 x.fst.snd.snd.fst), AV.slc 0 0 (List.length x.fst.snd.snd.snd.fst) Cap.low]) true none)]
noncomputable def tx8o0o1o0 (N0 : Nat) (x : Sh.Ts [TSh]) (w32 : Bool) : List AV := [AV.any, AV.any, AV.any, AV.any, AV.val (Value.bool w32), AV.any, AV.any, AV.any, AV.any, AV.any, AV.any, AV.any, AV.any, AV.any, AV.any, AV.any, AV.any, AV.any, AV.any, AV.any, AV.any, AV.any, AV.any, AV.any, AV.any, AV.any, AV.any, AV.any, AV.any, AV.any, AV.any, AV.any, AV.any, AV.any, AV.any, AV.any, AV.any, AV.any, AV.any, AV.any, AV.any, AV.any, AV.any, AV.any, AV.any, AV.any]
noncomputable def hx8o0o1o0 (N0 : Nat) (x : Sh.Ts [TSh]) (w32 : Bool) : Heap := [Ent.live (Blk.mk (Cells.arr (Sh.st [Sh.int IntKind.i64, Sh.int IntKind.i64]) x.fst.snd.snd.snd.fst) false none)]
noncomputable def law8o0o1 {β : Type} (N0 : Nat) (x : (TT × Unit)) (k0 : Bool → Option β) : Nat → Bool → Int → Option β
  | 0, _, _ => none
  | n + 1, i28, i29 => (bif decide (i29 < (↑(List.length x.fst.snd.snd.snd.fst) : Int)) then (bif i28 then (bif decide (0 ≤ i29) && decide (i29 < (↑(List.length x.fst.snd.snd.snd.fst) : Int)) then (Option.bind x.fst.snd.snd.snd.fst[i29.toNat]? fun v30 => (Option.bind (fn25 (v30.snd.fst, 0, 4294967296, ())) fun v31 => law8o0o1 N0 x k0 n v31.fst (IntKind.i64.wrap (i29 + 1)))) else none) else law8o0o1 N0 x k0 n false (IntKind.i64.wrap (i29 + 1))) else k0 i28)
theorem leq8o0o1 {β : Type} (N0 : Nat) (x : Sh.Ts [TSh]) (K : Exit → List AV → Heap → Option β) : ∀ (n : Nat) (i28 : Bool) (i29 : Int), ln8o0 N0 n (t8o0o1 N0 x i28 i29) (h8o0o1 N0 x i28 i29) K = law8o0o1 N0 x (fun w32 => K (Exit.exit 0) (tx8o0o1o0 N0 x w32) (hx8o0o1o0 N0 x w32)) n i28 i29
  | 0, _, _ => rfl
  | n + 1, i28, i29 => by
    have h : ln8o0 N0 (n + 1) (t8o0o1 N0 x i28 i29) (h8o0o1 N0 x i28 i29) K = (bif decide (i29 < (↑(List.length x.fst.snd.snd.snd.fst) : Int)) then (bif i28 then (bif decide (0 ≤ i29) && decide (i29 < (↑(List.length x.fst.snd.snd.snd.fst) : Int)) then (Option.bind x.fst.snd.snd.snd.fst[i29.toNat]? fun v30 => (Option.bind (fn25 (v30.snd.fst, 0, 4294967296, ())) fun v31 => ln8o0 N0 n (t8o0o1 N0 x v31.fst (IntKind.i64.wrap (i29 + 1))) (h8o0o1 N0 x v31.fst (IntKind.i64.wrap (i29 + 1))) K)) else none) else ln8o0 N0 n (t8o0o1 N0 x false (IntKind.i64.wrap (i29 + 1))) (h8o0o1 N0 x false (IntKind.i64.wrap (i29 + 1))) K) else K (Exit.exit 0) (tx8o0o1o0 N0 x i28) (hx8o0o1o0 N0 x i28)) := by kernel_rfl
    rw [h]
    simp only [decide_self, decide_true, Nat.zero_add, Bool.and_true, Bool.true_and, cond_true, law8o0o1, leq8o0o1 N0 x K n, leq8o0]
noncomputable def t8o0o2 (N0 : Nat) (x : Sh.Ts [TSh]) (i43 : Bool) (i44 : Int) : List AV := [AV.any, AV.ptr 1 0, AV.any, AV.any, AV.val (Value.bool i43), AV.val (Value.int IntKind.i64 i44), AV.any, AV.any, AV.any, AV.any, AV.any, AV.any, AV.any, AV.any, AV.any, AV.any, AV.any, AV.any, AV.any, AV.any, AV.any, AV.any, AV.any, AV.any, AV.any, AV.any, AV.any, AV.any, AV.any, AV.any, AV.any, AV.any, AV.any, AV.any, AV.any, AV.any, AV.any, AV.any, AV.any, AV.any, AV.any, AV.any, AV.any, AV.any, AV.any, AV.any]
noncomputable def h8o0o2 (N0 : Nat) (x : Sh.Ts [TSh]) (i43 : Bool) (i44 : Int) : Heap := [Ent.live (Blk.mk (Cells.arr (Sh.st [Sh.int IntKind.i64, Sh.int IntKind.i64]) x.fst.snd.snd.snd.fst) false none), Ent.live (Blk.mk (Cells.lit [AV.val (Value.int IntKind.i64 x.fst.fst), AV.val (Value.int IntKind.i64 x.fst.snd.fst), AV.val (Value.int IntKind.i64 x.fst.snd.snd.fst), AV.slc 0 0 (List.length x.fst.snd.snd.snd.fst) Cap.low]) true none)]
noncomputable def tx8o0o2o0 (N0 : Nat) (x : Sh.Ts [TSh]) (w47 : Bool) : List AV := [AV.any, AV.any, AV.any, AV.any, AV.val (Value.bool w47), AV.any, AV.any, AV.any, AV.any, AV.any, AV.any, AV.any, AV.any, AV.any, AV.any, AV.any, AV.any, AV.any, AV.any, AV.any, AV.any, AV.any, AV.any, AV.any, AV.any, AV.any, AV.any, AV.any, AV.any, AV.any, AV.any, AV.any, AV.any, AV.any, AV.any, AV.any, AV.any, AV.any, AV.any, AV.any, AV.any, AV.any, AV.any, AV.any, AV.any, AV.any]
noncomputable def hx8o0o2o0 (N0 : Nat) (x : Sh.Ts [TSh]) (w47 : Bool) : Heap := [Ent.live (Blk.mk (Cells.arr (Sh.st [Sh.int IntKind.i64, Sh.int IntKind.i64]) x.fst.snd.snd.snd.fst) false none)]
noncomputable def law8o0o2 {β : Type} (N0 : Nat) (x : (TT × Unit)) (k0 : Bool → Option β) : Nat → Bool → Int → Option β
  | 0, _, _ => none
  | n + 1, i43, i44 => (bif decide (i44 < (↑(List.length x.fst.snd.snd.snd.fst) : Int)) then (bif i43 then (bif decide (0 ≤ i44) && decide (i44 < (↑(List.length x.fst.snd.snd.snd.fst) : Int)) then (Option.bind x.fst.snd.snd.snd.fst[i44.toNat]? fun v45 => (Option.bind (fn25 (v45.snd.fst, 0, 4294967296, ())) fun v46 => law8o0o2 N0 x k0 n v46.fst (IntKind.i64.wrap (i44 + 1)))) else none) else law8o0o2 N0 x k0 n false (IntKind.i64.wrap (i44 + 1))) else k0 i43)
theorem leq8o0o2 {β : Type} (N0 : Nat) (x : Sh.Ts [TSh]) (K : Exit → List AV → Heap → Option β) : ∀ (n : Nat) (i43 : Bool) (i44 : Int), ln8o0 N0 n (t8o0o2 N0 x i43 i44) (h8o0o2 N0 x i43 i44) K = law8o0o2 N0 x (fun w47 => K (Exit.exit 0) (tx8o0o2o0 N0 x w47) (hx8o0o2o0 N0 x w47)) n i43 i44
  | 0, _, _ => rfl
  | n + 1, i43, i44 => by
    have h : ln8o0 N0 (n + 1) (t8o0o2 N0 x i43 i44) (h8o0o2 N0 x i43 i44) K = (bif decide (i44 < (↑(List.length x.fst.snd.snd.snd.fst) : Int)) then (bif i43 then (bif decide (0 ≤ i44) && decide (i44 < (↑(List.length x.fst.snd.snd.snd.fst) : Int)) then (Option.bind x.fst.snd.snd.snd.fst[i44.toNat]? fun v45 => (Option.bind (fn25 (v45.snd.fst, 0, 4294967296, ())) fun v46 => ln8o0 N0 n (t8o0o2 N0 x v46.fst (IntKind.i64.wrap (i44 + 1))) (h8o0o2 N0 x v46.fst (IntKind.i64.wrap (i44 + 1))) K)) else none) else ln8o0 N0 n (t8o0o2 N0 x false (IntKind.i64.wrap (i44 + 1))) (h8o0o2 N0 x false (IntKind.i64.wrap (i44 + 1))) K) else K (Exit.exit 0) (tx8o0o2o0 N0 x i43) (hx8o0o2o0 N0 x i43)) := by kernel_rfl
    rw [h]
    simp only [decide_self, decide_true, Nat.zero_add, Bool.and_true, Bool.true_and, cond_true, law8o0o2, leq8o0o2 N0 x K n, leq8o0, leq8o0o1]
theorem rest8o0o0 (N0 : Nat) (x : Sh.Ts [TSh]) (w18 : Sh.bool.T) : rk8o0 N0 (Exit.exit 0) (tx8o0o0 N0 x w18) (hx8o0o0 N0 x w18) = (bif !w18 then some ((40, ())) else some ((0, ()))) := by kernel_rfl
theorem rest8o0o1o0 (N0 : Nat) (x : Sh.Ts [TSh]) (w33 : Bool) : rk8o0 N0 (Exit.exit 0) (tx8o0o1o0 N0 x w33) (hx8o0o1o0 N0 x w33) = (bif !w33 then some ((40, ())) else some ((0, ()))) := by kernel_rfl
theorem rest8o0o2o0 (N0 : Nat) (x : Sh.Ts [TSh]) (w48 : Bool) : rk8o0 N0 (Exit.exit 0) (tx8o0o2o0 N0 x w48) (hx8o0o2o0 N0 x w48) = (bif !w48 then some ((40, ())) else some ((0, ()))) := by kernel_rfl
noncomputable def law8 (N0 : Nat) (x : (TT × Unit)) : Option ((Int × Unit)) := (Option.bind (fn24 x.fst.snd.snd.snd) fun v0 => (bif v0.fst != 0 then some ((v0.fst, ())) else (Option.bind (fn25 (x.fst.snd.fst, 0, 2199023255552, ())) fun v1 => (bif v1.fst then (Option.bind (fn25 (x.fst.fst, 0, x.fst.snd.fst, ())) fun v2 => (bif v2.fst then (Option.bind (fn25 (x.fst.snd.snd.fst, 0, 4294967296, ())) fun v3 => (law8o0 N0 x (fun w18 => (bif !w18 then some ((40, ())) else some ((0, ())))) N0 v3.fst 0)) else (law8o0o1 N0 x (fun w33 => (bif !w33 then some ((40, ())) else some ((0, ())))) N0 false 0))) else (law8o0o2 N0 x (fun w48 => (bif !w48 then some ((40, ())) else some ((0, ())))) N0 false 0)))))
theorem eq8 (N0 : Nat) (x : Sh.Ts [TSh]) : codeLaw Try.prog env8 200 (L8 N0) Try.f8 c8 [TSh] [.int .i64] x = law8 N0 x := by
  have h : codeLaw Try.prog env8 200 (L8 N0) Try.f8 c8 [TSh] [.int .i64] x = (bif decide (List.length x.fst.snd.snd.snd.fst = List.length x.fst.snd.snd.snd.fst) && true then (Option.bind (fn24 x.fst.snd.snd.snd) fun v0 => (bif v0.fst != 0 then some ((v0.fst, ())) else (Option.bind (fn25 (x.fst.snd.fst, 0, 2199023255552, ())) fun v1 => (bif v1.fst then (Option.bind (fn25 (x.fst.fst, 0, x.fst.snd.fst, ())) fun v2 => (bif v2.fst then (Option.bind (fn25 (x.fst.snd.snd.fst, 0, 4294967296, ())) fun v3 => (ln8o0 N0 N0 (t8o0 N0 x v3.fst 0) (h8o0 N0 x v3.fst 0) (rk8o0 N0))) else (ln8o0 N0 N0 (t8o0o1 N0 x false 0) (h8o0o1 N0 x false 0) (rk8o0 N0)))) else (ln8o0 N0 N0 (t8o0o2 N0 x false 0) (h8o0o2 N0 x false 0) (rk8o0 N0)))))) else none) := by kernel_rfl
  rw [h]
  unfold law8
  simp only [decide_self, decide_true, Nat.zero_add, Bool.and_true, Bool.true_and, cond_true, leq8o0, leq8o0o1, leq8o0o2, rest8o0o0, rest8o0o1o0, rest8o0o2o0]
noncomputable def fn8 (x : (TT × Unit)) : Option ((Int × Unit)) := law8 (10 ^ 30) x
theorem reads8 : Reads Try.prog 8 [TSh] [.int .i64] fn8 := (Reads.of_code mixed (fn := Try.f8) (c := c8) Try.func8 (by kernel_rfl) (by kernel_rfl) env8 200 (L8_fit _) (by kernel_rfl)).to (eq8 _)
noncomputable def s8 : Summ Try.prog := reads8.summ
/- chicane/fuel.Rate -/
noncomputable def c10 : Code := (Try.f10.body.getD .skip)
noncomputable def env10 : Env Try.prog := [s27, s28, s26, s29]
noncomputable def L10 : Loops Try.prog := []
theorem L10_fit : (L10).fit c10 := Loops.fit_nil
noncomputable def law10 (m : MT) (x : (TankT × Int × Int × Unit)) : Option (MT × (Int × Unit)) := (Option.bind (fn27 m (x.fst.snd.snd.snd.fst, x.snd.fst, ())) fun v0 => (Option.bind (fn28 (x.snd.snd.fst, 0, 4294967296, ())) fun v1 => (Option.bind (fn26 v0.fst (v0.snd.fst, v1)) fun v2 => (Option.bind (fn29 v2.fst (x.fst.snd.snd.fst, v2.snd)) fun v3 => some (((v3.fst.fst, ()), v3.snd.fst, ()))))))
theorem eq10 (m : MSh.T) (x : Sh.Ts [TankSh, Sh.int IntKind.i64, Sh.int IntKind.i64]) : codeLawM Try.prog env10 200 (L10) Try.f10 c10 (MSh) [TankSh, .int .i64, .int .i64] [.int .i64] m x = law10 m x := by
  have h : codeLawM Try.prog env10 200 (L10) Try.f10 c10 (MSh) [TankSh, .int .i64, .int .i64] [.int .i64] m x = (bif decide (List.length x.fst.snd.snd.snd.fst = List.length x.fst.snd.snd.snd.fst) && true then (Option.bind (fn27 m (x.fst.snd.snd.snd.fst, x.snd.fst, ())) fun v0 => (Option.bind (fn28 (x.snd.snd.fst, 0, 4294967296, ())) fun v1 => (Option.bind (fn26 v0.fst (v0.snd.fst, v1)) fun v2 => (Option.bind (fn29 v2.fst (x.fst.snd.snd.fst, v2.snd)) fun v3 => some (((v3.fst.fst, ()), v3.snd.fst, ())))))) else none) := by kernel_rfl
  rw [h]
  unfold law10
  simp only [decide_self, decide_true, Nat.zero_add, Bool.and_true, Bool.true_and, cond_true]
noncomputable def fn10 (m : MT) (x : (TankT × Int × Int × Unit)) : Option (MT × (Int × Unit)) := law10 m x
theorem acts10 : Acts Try.prog 10 (MSh) [TankSh, .int .i64, .int .i64] [.int .i64] fn10 := (Acts.of_code mixed (fn := Try.f10) (c := c10) Try.func10 (by kernel_rfl) (by kernel_rfl) env10 200 (L10_fit) (by kernel_rfl) (by kernel_rfl)).to (eq10)
noncomputable def s10 : Summ Try.prog := acts10.summ (by kernel_rfl)
/- chicane/chicaneref45.Rate -/
noncomputable def c11 : Code := (Try.f11.body.getD .skip)
noncomputable def env11 : Env Try.prog := [s31, s32, s30, s21]
noncomputable def L11 : Loops Try.prog := []
theorem L11_fit : (L11).fit c11 := Loops.fit_nil
noncomputable def law11 (m : Mx1T) (x : (TT × Int × Int × Unit)) : Option (Mx1T × (Int × Unit)) := (Option.bind (fn31 m (x.fst.snd.snd.snd.fst, x.snd.fst, ())) fun v0 => (Option.bind (fn32 (x.snd.snd.fst, 0, 4294967296, ())) fun v1 => (Option.bind (fn30 v0.fst (v0.snd.fst, v1)) fun v2 => (Option.bind (fn21 v2.fst (x.fst.snd.snd.fst, v2.snd)) fun v3 => some (((v3.fst.fst, ()), v3.snd.fst, ()))))))
theorem eq11 (m : Mx1Sh.T) (x : Sh.Ts [TSh, Sh.int IntKind.i64, Sh.int IntKind.i64]) : codeLawM Try.prog env11 200 (L11) Try.f11 c11 (Mx1Sh) [TSh, .int .i64, .int .i64] [.int .i64] m x = law11 m x := by
  have h : codeLawM Try.prog env11 200 (L11) Try.f11 c11 (Mx1Sh) [TSh, .int .i64, .int .i64] [.int .i64] m x = (bif decide (List.length x.fst.snd.snd.snd.fst = List.length x.fst.snd.snd.snd.fst) && true then (Option.bind (fn31 m (x.fst.snd.snd.snd.fst, x.snd.fst, ())) fun v0 => (Option.bind (fn32 (x.snd.snd.fst, 0, 4294967296, ())) fun v1 => (Option.bind (fn30 v0.fst (v0.snd.fst, v1)) fun v2 => (Option.bind (fn21 v2.fst (x.fst.snd.snd.fst, v2.snd)) fun v3 => some (((v3.fst.fst, ()), v3.snd.fst, ())))))) else none) := by kernel_rfl
  rw [h]
  unfold law11
  simp only [decide_self, decide_true, Nat.zero_add, Bool.and_true, Bool.true_and, cond_true]
noncomputable def fn11 (m : Mx1T) (x : (TT × Int × Int × Unit)) : Option (Mx1T × (Int × Unit)) := law11 m x
theorem acts11 : Acts Try.prog 11 (Mx1Sh) [TSh, .int .i64, .int .i64] [.int .i64] fn11 := (Acts.of_code mixed (fn := Try.f11) (c := c11) Try.func11 (by kernel_rfl) (by kernel_rfl) env11 200 (L11_fit) (by kernel_rfl) (by kernel_rfl)).to (eq11)
noncomputable def s11 : Summ Try.prog := acts11.summ (by kernel_rfl)
/- chicane/fuel.Use -/
noncomputable def c12 : Code := (Try.f12.body.getD .skip)
noncomputable def env12 : Env Try.prog := [s10, s26, s33]
noncomputable def s12 : Summ Try.prog := inlSumm onlyM mixed 12 Try.f12 c12 Try.func12 (by kernel_rfl) (by kernel_rfl) env12 200 [] Loops.fit_nil
/- chicane/chicaneref45.Use -/
noncomputable def c13 : Code := (Try.f13.body.getD .skip)
noncomputable def env13 : Env Try.prog := [s11, s30, s34]
noncomputable def L13 : Loops Try.prog := []
theorem L13_fit : (L13).fit c13 := Loops.fit_nil
noncomputable def law13 (m : Mx1T) (x : (TT × Int × Int × Int × Unit)) : Option (Mx1T × (Int × Unit)) := (Option.bind (fn11 m (x.fst, x.snd.fst, x.snd.snd.fst, ())) fun v0 => (Option.bind (fn30 v0.fst (v0.snd.fst, x.snd.snd.snd)) fun v1 => (Option.bind (fn34 v1.fst (x.fst.fst, v1.snd)) fun v2 => some (((v2.fst.fst, ()), if 0 > v2.snd.fst then 0 else v2.snd.fst, ())))))
theorem eq13 (m : Mx1Sh.T) (x : Sh.Ts [TSh, Sh.int IntKind.i64, Sh.int IntKind.i64, Sh.int IntKind.i64]) : codeLawM Try.prog env13 200 (L13) Try.f13 c13 (Mx1Sh) [TSh, .int .i64, .int .i64, .int .i64] [.int .i64] m x = law13 m x := by
  have h : codeLawM Try.prog env13 200 (L13) Try.f13 c13 (Mx1Sh) [TSh, .int .i64, .int .i64, .int .i64] [.int .i64] m x = (bif decide (List.length x.fst.snd.snd.snd.fst = List.length x.fst.snd.snd.snd.fst) && true && true then (Option.bind (fn11 m (x.fst, x.snd.fst, x.snd.snd.fst, ())) fun v0 => (Option.bind (fn30 v0.fst (v0.snd.fst, x.snd.snd.snd)) fun v1 => (Option.bind (fn34 v1.fst (x.fst.fst, v1.snd)) fun v2 => some (((v2.fst.fst, ()), if 0 > v2.snd.fst then 0 else v2.snd.fst, ()))))) else none) := by kernel_rfl
  rw [h]
  unfold law13
  simp only [decide_self, decide_true, Nat.zero_add, Bool.and_true, Bool.true_and, cond_true]
noncomputable def fn13 (m : Mx1T) (x : (TT × Int × Int × Int × Unit)) : Option (Mx1T × (Int × Unit)) := law13 m x
theorem acts13 : Acts Try.prog 13 (Mx1Sh) [TSh, .int .i64, .int .i64, .int .i64] [.int .i64] fn13 := (Acts.of_code mixed (fn := Try.f13) (c := c13) Try.func13 (by kernel_rfl) (by kernel_rfl) env13 200 (L13_fit) (by kernel_rfl) (by kernel_rfl)).to (eq13)
noncomputable def s13 : Summ Try.prog := acts13.summ (by kernel_rfl)
/- chicane/chicanelaw45.same -/
noncomputable def c14 : Code := (Try.f14.body.getD .skip)
noncomputable def env14 : Env Try.prog := []
noncomputable def b14o0 : Code := ((kid ((subAt c14 [0, 1, 0, 1, 1]).getD .skip) 0).getD .skip)
noncomputable def kx14o0 : Exit → List Nat | .ret => [6] | _ => []
noncomputable def Li14o0 (N0 : Nat) : Loops Try.prog := []
noncomputable def ls14o0 (N0 : Nat) : LSumm Try.prog := loopSumm mixed env14 200 (Li14o0 N0) b14o0 (Loops.fit_nil) [3, 4, 7] kx14o0 (N0)
noncomputable def ln14o0 {β : Type} (N0 : Nat) (n : Nat) (t : List AV) (h : Heap) (K : Exit → List AV → Heap → Option β) : Option β := loopN Try.prog env14 (Sh.nes [TankSh, TankSh, .int .i64]) 200 (Li14o0 N0) b14o0 [3, 4, 7] kx14o0 n t h K
noncomputable def L14 (N0 : Nat) : Loops Try.prog := [([0, 1, 0, 1, 1], ls14o0 N0)]
theorem L14_fit (N0 : Nat) : (L14 N0).fit c14 := Loops.fit_cons (by kernel_rfl) (Loops.fit_nil)
noncomputable def K14 : Exit → List AV → Heap → Option (Sh.Ts [.bool]) := fun e t h => outK (P := Try.prog) Try.f14 [.bool] e t h
noncomputable def rk14o0 (N0 : Nat) : Exit → List AV → Heap → Option (Sh.Ts [.bool]) := (blkK 0 (seqK Try.prog env14 (Sh.nes [TankSh, TankSh, .int .i64]) 197 (L14 N0) [1, 1, 1] ((subAt c14 [1, 1, 1]).getD .skip) K14))
noncomputable def t14o0 (N0 : Nat) (x : Sh.Ts [TankSh, TankSh, Sh.int IntKind.i64]) (i13 : Int) : List AV := [AV.any, AV.any, AV.any, AV.ptr 2 0, AV.ptr 3 0, AV.any, AV.any, AV.val (Value.int IntKind.i64 i13), AV.any, AV.any, AV.any, AV.any, AV.any, AV.any, AV.any, AV.any, AV.any, AV.any, AV.any, AV.any, AV.any, AV.any, AV.any, AV.any, AV.any, AV.any, AV.any, AV.any, AV.any, AV.any, AV.any, AV.any, AV.any, AV.any, AV.any, AV.any, AV.any, AV.any, AV.any, AV.any, AV.any, AV.any, AV.any, AV.any, AV.any, AV.any, AV.any, AV.any, AV.any, AV.any, AV.any, AV.any, AV.any]
noncomputable def h14o0 (N0 : Nat) (x : Sh.Ts [TankSh, TankSh, Sh.int IntKind.i64]) (i13 : Int) : Heap := [Ent.live (Blk.mk (Cells.arr (Sh.st [Sh.int IntKind.i64, Sh.int IntKind.i64]) x.fst.snd.snd.snd.fst) false none), Ent.live (Blk.mk (Cells.arr (Sh.st [Sh.int IntKind.i64, Sh.int IntKind.i64]) x.snd.fst.snd.snd.snd.fst) false none), Ent.live (Blk.mk (Cells.lit [AV.val (Value.int IntKind.i64 x.fst.fst), AV.val (Value.int IntKind.i64 x.fst.snd.fst), AV.val (Value.int IntKind.i64 x.fst.snd.snd.fst), AV.slc 0 0 (List.length x.fst.snd.snd.snd.fst) Cap.low]) true none), Ent.live (Blk.mk (Cells.lit [AV.val (Value.int IntKind.i64 x.snd.fst.fst), AV.val (Value.int IntKind.i64 x.snd.fst.snd.fst), AV.val (Value.int IntKind.i64 x.snd.fst.snd.snd.fst), AV.slc 1 0 (List.length x.snd.fst.snd.snd.snd.fst) Cap.low]) true none)]
noncomputable def tx14o0o0 (N0 : Nat) (x : Sh.Ts [TankSh, TankSh, Sh.int IntKind.i64]) : List AV := [AV.any, AV.any, AV.any, AV.any, AV.any, AV.any, AV.val (Value.bool false), AV.any, AV.any, AV.any, AV.any, AV.any, AV.any, AV.any, AV.any, AV.any, AV.any, AV.any, AV.any, AV.any, AV.any, AV.any, AV.any, AV.any, AV.any, AV.any, AV.any, AV.any, AV.any, AV.any, AV.any, AV.any, AV.any, AV.any, AV.any, AV.any, AV.any, AV.any, AV.any, AV.any, AV.any, AV.any, AV.any, AV.any, AV.any, AV.any, AV.any, AV.any, AV.any, AV.any, AV.any, AV.any, AV.any]
noncomputable def hx14o0o0 (N0 : Nat) (x : Sh.Ts [TankSh, TankSh, Sh.int IntKind.i64]) : Heap := [Ent.live (Blk.mk (Cells.arr (Sh.st [Sh.int IntKind.i64, Sh.int IntKind.i64]) x.fst.snd.snd.snd.fst) false none), Ent.live (Blk.mk (Cells.arr (Sh.st [Sh.int IntKind.i64, Sh.int IntKind.i64]) x.snd.fst.snd.snd.snd.fst) false none)]
noncomputable def tx14o0o1 (N0 : Nat) (x : Sh.Ts [TankSh, TankSh, Sh.int IntKind.i64]) : List AV := [AV.any, AV.any, AV.any, AV.any, AV.any, AV.any, AV.any, AV.any, AV.any, AV.any, AV.any, AV.any, AV.any, AV.any, AV.any, AV.any, AV.any, AV.any, AV.any, AV.any, AV.any, AV.any, AV.any, AV.any, AV.any, AV.any, AV.any, AV.any, AV.any, AV.any, AV.any, AV.any, AV.any, AV.any, AV.any, AV.any, AV.any, AV.any, AV.any, AV.any, AV.any, AV.any, AV.any, AV.any, AV.any, AV.any, AV.any, AV.any, AV.any, AV.any, AV.any, AV.any, AV.any]
noncomputable def hx14o0o1 (N0 : Nat) (x : Sh.Ts [TankSh, TankSh, Sh.int IntKind.i64]) : Heap := [Ent.live (Blk.mk (Cells.arr (Sh.st [Sh.int IntKind.i64, Sh.int IntKind.i64]) x.fst.snd.snd.snd.fst) false none), Ent.live (Blk.mk (Cells.arr (Sh.st [Sh.int IntKind.i64, Sh.int IntKind.i64]) x.snd.fst.snd.snd.snd.fst) false none)]
noncomputable def law14o0 {β : Type} (N0 : Nat) (x : (TankT × TankT × Int × Unit)) (k0 : Option β) (k1 : Option β) : Nat → Int → Option β
  | 0, _ => none
  | n + 1, i13 => (bif decide (i13 < (↑(List.length x.fst.snd.snd.snd.fst) : Int)) then (bif decide (0 ≤ i13) && decide (i13 < (↑(List.length x.fst.snd.snd.snd.fst) : Int)) then (Option.bind x.fst.snd.snd.snd.fst[i13.toNat]? fun v14 => (bif decide (0 ≤ i13) && decide (i13 < (↑(List.length x.snd.fst.snd.snd.snd.fst) : Int)) then (Option.bind x.snd.fst.snd.snd.snd.fst[i13.toNat]? fun v15 => (bif !(v14.fst == v15.fst && (v14.snd.fst == v15.snd.fst && true)) then k0 else law14o0 N0 x k0 k1 n (IntKind.i64.wrap (i13 + 1)))) else none)) else none) else k1)
theorem leq14o0 {β : Type} (N0 : Nat) (x : Sh.Ts [TankSh, TankSh, Sh.int IntKind.i64]) (K : Exit → List AV → Heap → Option β) : ∀ (n : Nat) (i13 : Int), ln14o0 N0 n (t14o0 N0 x i13) (h14o0 N0 x i13) K = law14o0 N0 x (K (Exit.ret) (tx14o0o0 N0 x) (hx14o0o0 N0 x)) (K (Exit.exit 0) (tx14o0o1 N0 x) (hx14o0o1 N0 x)) n i13
  | 0, _ => rfl
  | n + 1, i13 => by
    have h : ln14o0 N0 (n + 1) (t14o0 N0 x i13) (h14o0 N0 x i13) K = (bif decide (i13 < (↑(List.length x.fst.snd.snd.snd.fst) : Int)) then (bif decide (0 ≤ i13) && decide (i13 < (↑(List.length x.fst.snd.snd.snd.fst) : Int)) then (Option.bind x.fst.snd.snd.snd.fst[i13.toNat]? fun v14 => (bif decide (0 ≤ i13) && decide (i13 < (↑(List.length x.snd.fst.snd.snd.snd.fst) : Int)) then (Option.bind x.snd.fst.snd.snd.snd.fst[i13.toNat]? fun v15 => (bif !(v14.fst == v15.fst && (v14.snd.fst == v15.snd.fst && true)) then K (Exit.ret) (tx14o0o0 N0 x) (hx14o0o0 N0 x) else ln14o0 N0 n (t14o0 N0 x (IntKind.i64.wrap (i13 + 1))) (h14o0 N0 x (IntKind.i64.wrap (i13 + 1))) K)) else none)) else none) else K (Exit.exit 0) (tx14o0o1 N0 x) (hx14o0o1 N0 x)) := by kernel_rfl
    rw [h]
    simp only [decide_self, decide_true, Nat.zero_add, Bool.and_true, Bool.true_and, cond_true, law14o0, leq14o0 N0 x K n]
theorem rest14o0o0 (N0 : Nat) (x : Sh.Ts [TankSh, TankSh, Sh.int IntKind.i64]) : rk14o0 N0 (Exit.ret) (tx14o0o0 N0 x) (hx14o0o0 N0 x) = some ((false, ())) := by kernel_rfl
theorem rest14o0o1 (N0 : Nat) (x : Sh.Ts [TankSh, TankSh, Sh.int IntKind.i64]) : rk14o0 N0 (Exit.exit 0) (tx14o0o1 N0 x) (hx14o0o1 N0 x) = some ((true, ())) := by kernel_rfl
noncomputable def law14 (N0 : Nat) (x : (TankT × TankT × Int × Unit)) : Option ((Bool × Unit)) := (bif x.fst.fst != x.snd.snd.fst then some ((false, ())) else (bif x.fst.snd.fst != x.snd.fst.snd.fst then some ((false, ())) else (bif x.fst.snd.snd.fst != x.snd.fst.snd.snd.fst then some ((false, ())) else (bif (↑(List.length x.fst.snd.snd.snd.fst) : Int) != (↑(List.length x.snd.fst.snd.snd.snd.fst) : Int) then some ((false, ())) else (law14o0 N0 x (some ((false, ()))) (some ((true, ()))) N0 0)))))
theorem eq14 (N0 : Nat) (x : Sh.Ts [TankSh, TankSh, Sh.int IntKind.i64]) : codeLaw Try.prog env14 200 (L14 N0) Try.f14 c14 [TankSh, TankSh, .int .i64] [.bool] x = law14 N0 x := by
  have h : codeLaw Try.prog env14 200 (L14 N0) Try.f14 c14 [TankSh, TankSh, .int .i64] [.bool] x = (bif x.fst.fst != x.snd.snd.fst then some ((false, ())) else (bif x.fst.snd.fst != x.snd.fst.snd.fst then some ((false, ())) else (bif x.fst.snd.snd.fst != x.snd.fst.snd.snd.fst then some ((false, ())) else (bif (↑(List.length x.fst.snd.snd.snd.fst) : Int) != (↑(List.length x.snd.fst.snd.snd.snd.fst) : Int) then some ((false, ())) else (ln14o0 N0 N0 (t14o0 N0 x 0) (h14o0 N0 x 0) (rk14o0 N0)))))) := by kernel_rfl
  rw [h]
  unfold law14
  simp only [decide_self, decide_true, Nat.zero_add, Bool.and_true, Bool.true_and, cond_true, leq14o0, rest14o0o0, rest14o0o1]
noncomputable def fn14 (x : (TankT × TankT × Int × Unit)) : Option ((Bool × Unit)) := law14 (10 ^ 30) x
theorem reads14 : Reads Try.prog 14 [TankSh, TankSh, .int .i64] [.bool] fn14 := (Reads.of_code mixed (fn := Try.f14) (c := c14) Try.func14 (by kernel_rfl) (by kernel_rfl) env14 200 (L14_fit _) (by kernel_rfl)).to (eq14 _)
noncomputable def s14 : Summ Try.prog := reads14.summ
/- chicane/fuel.Laps -/
noncomputable def c17 : Code := (Try.f17.body.getD .skip)
noncomputable def env17 : Env Try.prog := []
noncomputable def L17 : Loops Try.prog := []
theorem L17_fit : (L17).fit c17 := Loops.fit_nil
noncomputable def law17 (x : (TankT × Int × Unit)) : Option ((Int × Bool × Unit)) := (bif decide (x.snd.fst ≤ 0) then some ((0, false, ())) else (bif !decide (x.snd.fst = 0) then (bif !decide (x.snd.fst = 0) then (bif decide (Int.tmod x.fst.fst x.snd.fst < 0) then some ((IntKind.i64.wrap (IntKind.i64.wrap (Int.tdiv x.fst.fst x.snd.fst) - 1), true, ())) else some ((IntKind.i64.wrap (Int.tdiv x.fst.fst x.snd.fst), true, ()))) else none) else none))
theorem eq17 (x : Sh.Ts [TankSh, Sh.int IntKind.i64]) : codeLaw Try.prog env17 200 (L17) Try.f17 c17 [TankSh, .int .i64] [.int .i64, .bool] x = law17 x := by kernel_rfl
noncomputable def fn17 (x : (TankT × Int × Unit)) : Option ((Int × Bool × Unit)) := law17 x
theorem reads17 : Reads Try.prog 17 [TankSh, .int .i64] [.int .i64, .bool] fn17 := (Reads.of_code mixed (fn := Try.f17) (c := c17) Try.func17 (by kernel_rfl) (by kernel_rfl) env17 200 (L17_fit) (by kernel_rfl)).to (eq17)
noncomputable def s17 : Summ Try.prog := reads17.summ
/- chicane/chicanelaw45.awake -/
noncomputable def c15 : Code := (Try.f15.body.getD .skip)
noncomputable def env15 : Env Try.prog := [s17, s12, s7]
noncomputable def fn15 (x : (Unit)) : Option ((Bool × Unit)) := some (true, ())
theorem eq15 (x : Sh.Ts []) : codeLaw Try.prog env15 200 [] Try.f15 c15 [] [.bool] x = fn15 x := by kernel_rfl
theorem reads15 : Reads Try.prog 15 [] [.bool] fn15 := (Reads.of_code mixed (fn := Try.f15) (c := c15) Try.func15 (by kernel_rfl) (by kernel_rfl) env15 200 Loops.fit_nil (by kernel_rfl)).to eq15
noncomputable def s15 : Summ Try.prog := reads15.summ
/- chicane/chicanelaw45.FuelUse -/
noncomputable def c3 : Code := (Try.f3.body.getD .skip)
noncomputable def env3 : Env Try.prog := [s7, s9, s8, s10, s11, s12, s13, s14, s15]
noncomputable def L3 : Loops Try.prog := []
theorem L3_fit : (L3).fit c3 := Loops.fit_nil
noncomputable def law3 (x : (TankT × (Int × Int × Int × Unit) × Unit)) : Option ((Bool × Unit)) := (bif decide ((↑(List.length x.fst.snd.snd.snd.fst) : Int) > 40) then some ((true, ())) else (Option.bind (fn7 (x.fst, ())) fun v0 => (Option.bind (fn8 (x.fst, ())) fun v1 => (bif v0.fst != v1.fst then some ((false, ())) else (Option.bind (fn10 (false, ()) (x.fst, x.snd.fst.fst, x.snd.fst.snd.fst, ())) fun v2 => (Option.bind (fn11 (false, ()) (x.fst, x.snd.fst.fst, x.snd.fst.snd.fst, ())) fun v3 => (bif v2.snd.fst != v3.snd.fst then some ((false, ())) else (bif !v2.fst.fst == v3.fst.fst then some ((false, ())) else (Option.bind (fn10 v2.fst (x.fst, x.snd.fst.fst, x.snd.fst.snd.fst, ())) fun v4 => (Option.bind (fn26 v4.fst (v4.snd.fst, x.snd.fst.snd.snd)) fun v5 => (Option.bind (fn33 v5.fst (x.fst.fst, v5.snd)) fun v6 => (Option.bind (fn13 v3.fst (x.fst, x.snd.fst)) fun v7 => (Option.bind (fn14 ((if 0 > v6.snd.fst then 0 else v6.snd.fst, x.fst.snd), x.fst, v7.snd)) fun v8 => (bif v8.fst then (bif ((if 0 > v6.snd.fst then 0 else v6.snd.fst) == 0) == (v7.snd.fst == 0) then (bif v6.fst.fst == v7.fst.fst then some ((true, ())) else some ((false, ()))) else some ((false, ()))) else some ((false, ()))))))))))))))))
theorem eq3 (x : Sh.Ts [TankSh, Sh.st [Sh.int IntKind.i64, Sh.int IntKind.i64, Sh.int IntKind.i64]]) : codeLaw Try.prog env3 200 (L3) Try.f3 c3 [TankSh, .st [.int .i64, .int .i64, .int .i64]] [.bool] x = law3 x := by
  have h : codeLaw Try.prog env3 200 (L3) Try.f3 c3 [TankSh, .st [.int .i64, .int .i64, .int .i64]] [.bool] x = (bif decide ((↑(List.length x.fst.snd.snd.snd.fst) : Int) > 40) then some ((true, ())) else (bif decide (List.length x.fst.snd.snd.snd.fst = List.length x.fst.snd.snd.snd.fst) && true && true then (Option.bind (fn7 (x.fst, ())) fun v0 => (bif decide (List.length x.fst.snd.snd.snd.fst = List.length x.fst.snd.snd.snd.fst) && true && true then (Option.bind (fn8 (x.fst, ())) fun v1 => (bif v0.fst != v1.fst then some ((false, ())) else (bif decide (List.length x.fst.snd.snd.snd.fst = List.length x.fst.snd.snd.snd.fst) && true && true then (Option.bind (fn10 (false, ()) (x.fst, x.snd.fst.fst, x.snd.fst.snd.fst, ())) fun v2 => (bif decide (List.length x.fst.snd.snd.snd.fst = List.length x.fst.snd.snd.snd.fst) && true && true then (Option.bind (fn11 (false, ()) (x.fst, x.snd.fst.fst, x.snd.fst.snd.fst, ())) fun v3 => (bif v2.snd.fst != v3.snd.fst then some ((false, ())) else (bif !v2.fst.fst == v3.fst.fst then some ((false, ())) else (bif decide (List.length x.fst.snd.snd.snd.fst = List.length x.fst.snd.snd.snd.fst) && true && true then (Option.bind (fn10 v2.fst (x.fst, x.snd.fst.fst, x.snd.fst.snd.fst, ())) fun v4 => (Option.bind (fn26 v4.fst (v4.snd.fst, x.snd.fst.snd.snd)) fun v5 => (Option.bind (fn33 v5.fst (x.fst.fst, v5.snd)) fun v6 => (bif decide (List.length x.fst.snd.snd.snd.fst = List.length x.fst.snd.snd.snd.fst) && true && true then (Option.bind (fn13 v3.fst (x.fst, x.snd.fst)) fun v7 => (bif decide (List.length x.fst.snd.snd.snd.fst = List.length x.fst.snd.snd.snd.fst) && true && (decide (List.length x.fst.snd.snd.snd.fst = List.length x.fst.snd.snd.snd.fst) && true && true) then (Option.bind (fn14 ((if 0 > v6.snd.fst then 0 else v6.snd.fst, x.fst.snd), x.fst, v7.snd)) fun v8 => (bif v8.fst then (bif ((if 0 > v6.snd.fst then 0 else v6.snd.fst) == 0) == (v7.snd.fst == 0) then (bif v6.fst.fst == v7.fst.fst then some ((true, ())) else some ((false, ()))) else some ((false, ()))) else some ((false, ())))) else none)) else none)))) else none)))) else none)) else none))) else none)) else none)) := by kernel_rfl
  rw [h]
  unfold law3
  simp only [decide_self, decide_true, Nat.zero_add, Bool.and_true, Bool.true_and, cond_true]
noncomputable def fn3 (x : (TankT × (Int × Int × Int × Unit) × Unit)) : Option ((Bool × Unit)) := law3 x
theorem reads3 : Reads Try.prog 3 [TankSh, .st [.int .i64, .int .i64, .int .i64]] [.bool] fn3 := (Reads.of_code mixed (fn := Try.f3) (c := c3) Try.func3 (by kernel_rfl) (by kernel_rfl) env3 200 (L3_fit) (by kernel_rfl)).to (eq3)
noncomputable def s3 : Summ Try.prog := reads3.summ
/- chicane/fuel.Fill -/
noncomputable def c16 : Code := (Try.f16.body.getD .skip)
noncomputable def env16 : Env Try.prog := [s29, s28]
noncomputable def s16 : Summ Try.prog := inlSumm onlyM mixed 16 Try.f16 c16 Try.func16 (by kernel_rfl) (by kernel_rfl) env16 200 [] Loops.fit_nil
/- chicane/chicanelaw45.FuelLeft -/
noncomputable def c4 : Code := (Try.f4.body.getD .skip)
noncomputable def env4 : Env Try.prog := [s7, s15, s12, s16]
noncomputable def L4 : Loops Try.prog := []
theorem L4_fit : (L4).fit c4 := Loops.fit_nil
noncomputable def law4 (x : (TankT × (Int × Int × Int × Int × Unit) × Unit)) : Option ((Bool × Unit)) := (bif decide ((↑(List.length x.fst.snd.snd.snd.fst) : Int) > 40) then some ((true, ())) else (Option.bind (fn7 (x.fst, ())) fun v0 => (bif v0.fst != 0 then some ((true, ())) else (bif decide (x.snd.fst.snd.snd.fst < 0) then some ((true, ())) else (bif decide (x.snd.fst.snd.snd.fst > 4294967296000) then some ((true, ())) else (bif decide (x.snd.fst.snd.snd.snd.fst > 4294967296000) then some ((true, ())) else (bif decide (x.snd.fst.snd.snd.snd.fst < -4294967296000) then some ((true, ())) else (Option.bind (fn10 (false, ()) (x.fst, x.snd.fst.fst, x.snd.fst.snd.fst, ())) fun v1 => (Option.bind (fn26 v1.fst (v1.snd.fst, x.snd.fst.snd.snd.fst, ())) fun v2 => (Option.bind (fn33 v2.fst (x.fst.fst, v2.snd)) fun v3 => (Option.bind (fn29 v3.fst (if 0 > v3.snd.fst then 0 else v3.snd.fst, x.snd.fst.snd.snd.snd)) fun v4 => (Option.bind (fn28 (v4.snd.fst, 0, x.fst.snd.fst, ())) fun v5 => (bif decide ((if 0 > v3.snd.fst then 0 else v3.snd.fst) ≥ 0) then (bif decide ((if 0 > v3.snd.fst then 0 else v3.snd.fst) ≤ x.fst.fst) then (bif ((if 0 > v3.snd.fst then 0 else v3.snd.fst) == 0) == ((if 0 > v3.snd.fst then 0 else v3.snd.fst) == 0) then (Option.bind (fn7 ((if 0 > v3.snd.fst then 0 else v3.snd.fst, x.fst.snd), ())) fun v6 => (bif v6.fst == 0 then (Option.bind (fn7 ((v5.fst, x.fst.snd), ())) fun v7 => (bif v7.fst == 0 then (bif !v4.fst.fst then some ((true, ())) else some ((false, ()))) else some ((false, ())))) else some ((false, ())))) else some ((false, ()))) else some ((false, ()))) else some ((false, ())))))))))))))))
theorem eq4 (x : Sh.Ts [TankSh, Sh.st [Sh.int IntKind.i64, Sh.int IntKind.i64, Sh.int IntKind.i64, Sh.int IntKind.i64]]) : codeLaw Try.prog env4 200 (L4) Try.f4 c4 [TankSh, .st [.int .i64, .int .i64, .int .i64, .int .i64]] [.bool] x = law4 x := by
  have h : codeLaw Try.prog env4 200 (L4) Try.f4 c4 [TankSh, .st [.int .i64, .int .i64, .int .i64, .int .i64]] [.bool] x = (bif decide ((↑(List.length x.fst.snd.snd.snd.fst) : Int) > 40) then some ((true, ())) else (bif decide (List.length x.fst.snd.snd.snd.fst = List.length x.fst.snd.snd.snd.fst) && true && true then (Option.bind (fn7 (x.fst, ())) fun v0 => (bif v0.fst != 0 then some ((true, ())) else (bif decide (x.snd.fst.snd.snd.fst < 0) then some ((true, ())) else (bif decide (x.snd.fst.snd.snd.fst > 4294967296000) then some ((true, ())) else (bif decide (x.snd.fst.snd.snd.snd.fst > 4294967296000) then some ((true, ())) else (bif decide (x.snd.fst.snd.snd.snd.fst < -4294967296000) then some ((true, ())) else (bif decide (List.length x.fst.snd.snd.snd.fst = List.length x.fst.snd.snd.snd.fst) && true && true then (Option.bind (fn10 (false, ()) (x.fst, x.snd.fst.fst, x.snd.fst.snd.fst, ())) fun v1 => (Option.bind (fn26 v1.fst (v1.snd.fst, x.snd.fst.snd.snd.fst, ())) fun v2 => (Option.bind (fn33 v2.fst (x.fst.fst, v2.snd)) fun v3 => (Option.bind (fn29 v3.fst (if 0 > v3.snd.fst then 0 else v3.snd.fst, x.snd.fst.snd.snd.snd)) fun v4 => (Option.bind (fn28 (v4.snd.fst, 0, x.fst.snd.fst, ())) fun v5 => (bif decide ((if 0 > v3.snd.fst then 0 else v3.snd.fst) ≥ 0) then (bif decide ((if 0 > v3.snd.fst then 0 else v3.snd.fst) ≤ x.fst.fst) then (bif ((if 0 > v3.snd.fst then 0 else v3.snd.fst) == 0) == ((if 0 > v3.snd.fst then 0 else v3.snd.fst) == 0) then (bif decide (List.length x.fst.snd.snd.snd.fst = List.length x.fst.snd.snd.snd.fst) && true && true then (Option.bind (fn7 ((if 0 > v3.snd.fst then 0 else v3.snd.fst, x.fst.snd), ())) fun v6 => (bif v6.fst == 0 then (bif decide (List.length x.fst.snd.snd.snd.fst = List.length x.fst.snd.snd.snd.fst) && true && true then (Option.bind (fn7 ((v5.fst, x.fst.snd), ())) fun v7 => (bif v7.fst == 0 then (bif !v4.fst.fst then some ((true, ())) else some ((false, ()))) else some ((false, ())))) else none) else some ((false, ())))) else none) else some ((false, ()))) else some ((false, ()))) else some ((false, ())))))))) else none))))))) else none)) := by kernel_rfl
  rw [h]
  unfold law4
  simp only [decide_self, decide_true, Nat.zero_add, Bool.and_true, Bool.true_and, cond_true]
noncomputable def fn4 (x : (TankT × (Int × Int × Int × Int × Unit) × Unit)) : Option ((Bool × Unit)) := law4 x
theorem reads4 : Reads Try.prog 4 [TankSh, .st [.int .i64, .int .i64, .int .i64, .int .i64]] [.bool] fn4 := (Reads.of_code mixed (fn := Try.f4) (c := c4) Try.func4 (by kernel_rfl) (by kernel_rfl) env4 200 (L4_fit) (by kernel_rfl)).to (eq4)
noncomputable def s4 : Summ Try.prog := reads4.summ
/- chicane/chicanelaw45.FuelLasts -/
noncomputable def c5 : Code := (Try.f5.body.getD .skip)
noncomputable def env5 : Env Try.prog := [s7, s15, s17, s16]
noncomputable def L5 : Loops Try.prog := []
theorem L5_fit : (L5).fit c5 := Loops.fit_nil
noncomputable def law5 (x : (TankT × Int × Int × Unit)) : Option ((Bool × Unit)) := (bif decide ((↑(List.length x.fst.snd.snd.snd.fst) : Int) > 40) then some ((true, ())) else (Option.bind (fn7 (x.fst, ())) fun v0 => (bif v0.fst != 0 then some ((true, ())) else (bif decide (x.snd.fst ≤ 0) then some ((true, ())) else (bif decide (x.snd.fst > 4294967296000) then some ((true, ())) else (bif decide (x.snd.snd.fst < 0) then some ((true, ())) else (bif decide (x.snd.snd.fst > 4294967296000) then some ((true, ())) else (Option.bind (fn17 (x.fst, x.snd.fst, ())) fun v1 => (Option.bind (fn29 (false, ()) (x.fst.fst, x.snd.snd)) fun v2 => (Option.bind (fn28 (v2.snd.fst, 0, x.fst.snd.fst, ())) fun v3 => (Option.bind (fn17 ((v3.fst, x.fst.snd), x.snd.fst, ())) fun v4 => (bif v1.snd.fst then (bif v4.snd.fst then (bif decide (v1.fst ≥ 0) then (bif decide (IntKind.i64.wrap (v1.fst * x.snd.fst) ≤ x.fst.fst) then (bif decide (IntKind.i64.wrap (IntKind.i64.wrap (v1.fst + 1) * x.snd.fst) > x.fst.fst) then (bif decide (v4.fst ≥ v1.fst) then some ((true, ())) else some ((false, ()))) else some ((false, ()))) else some ((false, ()))) else some ((false, ()))) else some ((false, ()))) else some ((false, ()))))))))))))))
theorem eq5 (x : Sh.Ts [TankSh, Sh.int IntKind.i64, Sh.int IntKind.i64]) : codeLaw Try.prog env5 200 (L5) Try.f5 c5 [TankSh, .int .i64, .int .i64] [.bool] x = law5 x := by
  have h : codeLaw Try.prog env5 200 (L5) Try.f5 c5 [TankSh, .int .i64, .int .i64] [.bool] x = (bif decide ((↑(List.length x.fst.snd.snd.snd.fst) : Int) > 40) then some ((true, ())) else (bif decide (List.length x.fst.snd.snd.snd.fst = List.length x.fst.snd.snd.snd.fst) && true && true then (Option.bind (fn7 (x.fst, ())) fun v0 => (bif v0.fst != 0 then some ((true, ())) else (bif decide (x.snd.fst ≤ 0) then some ((true, ())) else (bif decide (x.snd.fst > 4294967296000) then some ((true, ())) else (bif decide (x.snd.snd.fst < 0) then some ((true, ())) else (bif decide (x.snd.snd.fst > 4294967296000) then some ((true, ())) else (bif decide (List.length x.fst.snd.snd.snd.fst = List.length x.fst.snd.snd.snd.fst) && true && true then (Option.bind (fn17 (x.fst, x.snd.fst, ())) fun v1 => (Option.bind (fn29 (false, ()) (x.fst.fst, x.snd.snd)) fun v2 => (Option.bind (fn28 (v2.snd.fst, 0, x.fst.snd.fst, ())) fun v3 => (bif decide (List.length x.fst.snd.snd.snd.fst = List.length x.fst.snd.snd.snd.fst) && true && true then (Option.bind (fn17 ((v3.fst, x.fst.snd), x.snd.fst, ())) fun v4 => (bif v1.snd.fst then (bif v4.snd.fst then (bif decide (v1.fst ≥ 0) then (bif decide (IntKind.i64.wrap (v1.fst * x.snd.fst) ≤ x.fst.fst) then (bif decide (IntKind.i64.wrap (IntKind.i64.wrap (v1.fst + 1) * x.snd.fst) > x.fst.fst) then (bif decide (v4.fst ≥ v1.fst) then some ((true, ())) else some ((false, ()))) else some ((false, ()))) else some ((false, ()))) else some ((false, ()))) else some ((false, ()))) else some ((false, ())))) else none)))) else none))))))) else none)) := by kernel_rfl
  rw [h]
  unfold law5
  simp only [decide_self, decide_true, Nat.zero_add, Bool.and_true, Bool.true_and, cond_true]
noncomputable def fn5 (x : (TankT × Int × Int × Unit)) : Option ((Bool × Unit)) := law5 x
theorem reads5 : Reads Try.prog 5 [TankSh, .int .i64, .int .i64] [.bool] fn5 := (Reads.of_code mixed (fn := Try.f5) (c := c5) Try.func5 (by kernel_rfl) (by kernel_rfl) env5 200 (L5_fit) (by kernel_rfl)).to (eq5)
noncomputable def s5 : Summ Try.prog := reads5.summ
/- chicane/chicaneref45.Laps -/
noncomputable def c18 : Code := (Try.f18.body.getD .skip)
noncomputable def env18 : Env Try.prog := []
noncomputable def L18 : Loops Try.prog := []
theorem L18_fit : (L18).fit c18 := Loops.fit_nil
noncomputable def law18 (x : (TT × Int × Unit)) : Option ((Int × Bool × Unit)) := (bif decide (x.snd.fst ≤ 0) then some ((0, false, ())) else (bif !decide (x.snd.fst = 0) then (bif decide (IntKind.i64.wrap (IntKind.i64.wrap (Int.tdiv x.fst.fst x.snd.fst) * x.snd.fst) > x.fst.fst) then some ((IntKind.i64.wrap (IntKind.i64.wrap (Int.tdiv x.fst.fst x.snd.fst) - 1), true, ())) else some ((IntKind.i64.wrap (Int.tdiv x.fst.fst x.snd.fst), true, ()))) else none))
theorem eq18 (x : Sh.Ts [TSh, Sh.int IntKind.i64]) : codeLaw Try.prog env18 200 (L18) Try.f18 c18 [TSh, .int .i64] [.int .i64, .bool] x = law18 x := by kernel_rfl
noncomputable def fn18 (x : (TT × Int × Unit)) : Option ((Int × Bool × Unit)) := law18 x
theorem reads18 : Reads Try.prog 18 [TSh, .int .i64] [.int .i64, .bool] fn18 := (Reads.of_code mixed (fn := Try.f18) (c := c18) Try.func18 (by kernel_rfl) (by kernel_rfl) env18 200 (L18_fit) (by kernel_rfl)).to (eq18)
noncomputable def s18 : Summ Try.prog := reads18.summ
/- chicane/chicaneref45.Fill -/
noncomputable def c19 : Code := (Try.f19.body.getD .skip)
noncomputable def env19 : Env Try.prog := [s21, s32]
noncomputable def L19 : Loops Try.prog := []
theorem L19_fit : (L19).fit c19 := Loops.fit_nil
noncomputable def law19 (m : Mx1T) (x : (TT × Int × Unit)) : Option (Mx1T × (Int × Unit)) := (Option.bind (fn21 m (x.fst.fst, x.snd)) fun v0 => (Option.bind (fn32 (v0.snd.fst, 0, x.fst.snd.fst, ())) fun v1 => some (((v0.fst.fst, ()), v1.fst, ()))))
theorem eq19 (m : Mx1Sh.T) (x : Sh.Ts [TSh, Sh.int IntKind.i64]) : codeLawM Try.prog env19 200 (L19) Try.f19 c19 (Mx1Sh) [TSh, .int .i64] [.int .i64] m x = law19 m x := by kernel_rfl
noncomputable def fn19 (m : Mx1T) (x : (TT × Int × Unit)) : Option (Mx1T × (Int × Unit)) := law19 m x
theorem acts19 : Acts Try.prog 19 (Mx1Sh) [TSh, .int .i64] [.int .i64] fn19 := (Acts.of_code mixed (fn := Try.f19) (c := c19) Try.func19 (by kernel_rfl) (by kernel_rfl) env19 200 (L19_fit) (by kernel_rfl) (by kernel_rfl)).to (eq19)
noncomputable def s19 : Summ Try.prog := acts19.summ (by kernel_rfl)
/- chicane/fuel.Weight -/
noncomputable def c20 : Code := (Try.f20.body.getD .skip)
noncomputable def env20 : Env Try.prog := [s29]
noncomputable def L20 : Loops Try.prog := []
theorem L20_fit : (L20).fit c20 := Loops.fit_nil
noncomputable def law20 (m : MT) (x : (Int × TankT × Unit)) : Option (MT × (Int × Unit)) := (Option.bind (fn29 m (x.fst, x.snd.fst.fst, ())) fun v0 => some (((v0.fst.fst, ()), v0.snd.fst, ())))
theorem eq20 (m : MSh.T) (x : Sh.Ts [Sh.int IntKind.i64, TankSh]) : codeLawM Try.prog env20 200 (L20) Try.f20 c20 (MSh) [.int .i64, TankSh] [.int .i64] m x = law20 m x := by kernel_rfl
noncomputable def fn20 (m : MT) (x : (Int × TankT × Unit)) : Option (MT × (Int × Unit)) := law20 m x
theorem acts20 : Acts Try.prog 20 (MSh) [.int .i64, TankSh] [.int .i64] fn20 := (Acts.of_code mixed (fn := Try.f20) (c := c20) Try.func20 (by kernel_rfl) (by kernel_rfl) env20 200 (L20_fit) (by kernel_rfl) (by kernel_rfl)).to (eq20)
noncomputable def s20 : Summ Try.prog := acts20.summ (by kernel_rfl)
/- chicane/chicanelaw45.FuelFill -/
noncomputable def c6 : Code := (Try.f6.body.getD .skip)
noncomputable def env6 : Env Try.prog := [s17, s9, s18, s16, s19, s14, s20, s21, s15]
noncomputable def L6 : Loops Try.prog := []
theorem L6_fit : (L6).fit c6 := Loops.fit_nil
noncomputable def law6 (x : (TankT × (Int × Int × Unit) × Unit)) : Option ((Bool × Unit)) := (bif decide ((↑(List.length x.fst.snd.snd.snd.fst) : Int) > 40) then some ((true, ())) else (bif decide (x.fst.snd.fst < 0) then some ((true, ())) else (Option.bind (fn17 (x.fst, x.snd.fst.snd)) fun v0 => (Option.bind (fn18 (x.fst, x.snd.fst.snd)) fun v1 => (Option.bind (fn29 (false, ()) (x.fst.fst, x.snd.fst.fst, ())) fun v2 => (Option.bind (fn28 (v2.snd.fst, 0, x.fst.snd.fst, ())) fun v3 => (Option.bind (fn19 (false, ()) (x.fst, x.snd.fst.fst, ())) fun v4 => (Option.bind (fn14 ((v3.fst, x.fst.snd), x.fst, v4.snd)) fun v5 => (bif v5.fst then (Option.bind (fn20 v2.fst (x.snd.fst.snd.fst, x.fst, ())) fun v6 => (Option.bind (fn21 v4.fst (x.snd.fst.snd.fst, x.fst.fst, ())) fun v7 => (bif v6.snd.fst == v7.snd.fst then (bif v0.fst == v1.fst then (bif v0.snd.fst == v1.snd.fst then (bif v6.fst.fst == v7.fst.fst then some ((true, ())) else some ((false, ()))) else some ((false, ()))) else some ((false, ()))) else some ((false, ()))))) else some ((false, ())))))))))))
theorem eq6 (x : Sh.Ts [TankSh, Sh.st [Sh.int IntKind.i64, Sh.int IntKind.i64]]) : codeLaw Try.prog env6 200 (L6) Try.f6 c6 [TankSh, .st [.int .i64, .int .i64]] [.bool] x = law6 x := by
  have h : codeLaw Try.prog env6 200 (L6) Try.f6 c6 [TankSh, .st [.int .i64, .int .i64]] [.bool] x = (bif decide ((↑(List.length x.fst.snd.snd.snd.fst) : Int) > 40) then some ((true, ())) else (bif decide (x.fst.snd.fst < 0) then some ((true, ())) else (bif decide (List.length x.fst.snd.snd.snd.fst = List.length x.fst.snd.snd.snd.fst) && true && true then (Option.bind (fn17 (x.fst, x.snd.fst.snd)) fun v0 => (bif decide (List.length x.fst.snd.snd.snd.fst = List.length x.fst.snd.snd.snd.fst) && true && true then (Option.bind (fn18 (x.fst, x.snd.fst.snd)) fun v1 => (Option.bind (fn29 (false, ()) (x.fst.fst, x.snd.fst.fst, ())) fun v2 => (Option.bind (fn28 (v2.snd.fst, 0, x.fst.snd.fst, ())) fun v3 => (bif decide (List.length x.fst.snd.snd.snd.fst = List.length x.fst.snd.snd.snd.fst) && true && true then (Option.bind (fn19 (false, ()) (x.fst, x.snd.fst.fst, ())) fun v4 => (bif decide (List.length x.fst.snd.snd.snd.fst = List.length x.fst.snd.snd.snd.fst) && true && (decide (List.length x.fst.snd.snd.snd.fst = List.length x.fst.snd.snd.snd.fst) && true && true) then (Option.bind (fn14 ((v3.fst, x.fst.snd), x.fst, v4.snd)) fun v5 => (bif v5.fst then (bif decide (List.length x.fst.snd.snd.snd.fst = List.length x.fst.snd.snd.snd.fst) && true && true then (Option.bind (fn20 v2.fst (x.snd.fst.snd.fst, x.fst, ())) fun v6 => (Option.bind (fn21 v4.fst (x.snd.fst.snd.fst, x.fst.fst, ())) fun v7 => (bif v6.snd.fst == v7.snd.fst then (bif v0.fst == v1.fst then (bif v0.snd.fst == v1.snd.fst then (bif v6.fst.fst == v7.fst.fst then some ((true, ())) else some ((false, ()))) else some ((false, ()))) else some ((false, ()))) else some ((false, ()))))) else none) else some ((false, ())))) else none)) else none)))) else none)) else none))) := by kernel_rfl
  rw [h]
  unfold law6
  simp only [decide_self, decide_true, Nat.zero_add, Bool.and_true, Bool.true_and, cond_true]
noncomputable def fn6 (x : (TankT × (Int × Int × Unit) × Unit)) : Option ((Bool × Unit)) := law6 x
theorem reads6 : Reads Try.prog 6 [TankSh, .st [.int .i64, .int .i64]] [.bool] fn6 := (Reads.of_code mixed (fn := Try.f6) (c := c6) Try.func6 (by kernel_rfl) (by kernel_rfl) env6 200 (L6_fit) (by kernel_rfl)).to (eq6)
noncomputable def s6 : Summ Try.prog := reads6.summ
end Go.Proofs.Ytoebdlpmnkbocaa
