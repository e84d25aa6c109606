/- What functions of this program tell of their arguments: for each a law, and that the function keeps to it. -/
import Derived.Test.YtiikkepnpidilaaLawsa
set_option linter.unusedVariables false
set_option linter.unusedSimpArgs false
set_option maxRecDepth 100000
namespace Go.Proofs.Ytiikkepnpidilaa
open Go Go.Ab Go.Proofs
/- chicane/car.values -/
noncomputable def c50x51 : Code := (Try.f50.body.getD .skip)
noncomputable def env50x51 : Env Try.prog := [s67, s51]
noncomputable def b50x51_0 : Code := ((kid ((subAt c50x51 [0, 1, 0, 1, 1]).getD .skip) 0).getD .skip)
noncomputable def kx50x51_0 : Exit → List Nat | .ret => [8] | _ => []
noncomputable def Li50x51_0 (N0 : Nat) : Loops Try.prog := []
noncomputable def ls50x51_0 (N0 : Nat) : LSumm Try.prog := loopSumm mixed env50x51 200 (Li50x51_0 N0) b50x51_0 (Loops.fit_nil) [1, 2, 3, 17, 18, 19] kx50x51_0 (N0)
noncomputable def ln50x51_0 {β : Type} (N0 : Nat) (n : Nat) (t : List AV) (h : Heap) (K : Exit → List AV → Heap → Option β) : Option β := loopN Try.prog env50x51 (Sh.nes [.sl (DotSh), .int .i64, .int .i64] + Sh.nes [] + List.length (α := Sh) []) 200 (Li50x51_0 N0) b50x51_0 [1, 2, 3, 17, 18, 19] kx50x51_0 n t h K
noncomputable def L50x51 (N0 : Nat) : Loops Try.prog := [([0, 1, 0, 1, 1], ls50x51_0 N0)]
theorem L50x51_fit (N0 : Nat) : (L50x51 N0).fit c50x51 := Loops.fit_cons (by kernel_rfl) (Loops.fit_nil)
noncomputable def K50x51 : Exit → List AV → Heap → Option (Sh.Ts [.int .i64]) := fun e t h => outK (P := Try.prog) Try.f50 [.int .i64] e t h
noncomputable def rk50x51_0 (N0 : Nat) : Exit → List AV → Heap → Option (Sh.Ts [.int .i64]) := (blkK 0 (seqK Try.prog env50x51 (Sh.nes [.sl (DotSh), .int .i64, .int .i64] + Sh.nes [] + List.length (α := Sh) []) 197 (L50x51 N0) [1, 1, 1] ((subAt c50x51 [1, 1, 1]).getD .skip) K50x51))
noncomputable def t50x51_0 (N0 : Nat) (x : Sh.Ts [DotSh.sl, Sh.int IntKind.i64, Sh.int IntKind.i64]) (i9 : Int) : List AV := [AV.any, AV.val (Value.int IntKind.i64 x.snd.fst), AV.val (Value.int IntKind.i64 x.snd.snd.fst), AV.fn (Fn.func 51) [] [], AV.any, AV.any, AV.any, AV.any, AV.any, AV.any, AV.any, AV.any, AV.any, AV.any, AV.any, AV.any, AV.any, AV.slc 0 0 (List.length x.fst) Cap.low, AV.val (Value.int IntKind.i64 (↑(List.length x.fst) : Int)), AV.val (Value.int IntKind.i64 i9), AV.any, AV.any, AV.any, AV.any, AV.any, AV.any, AV.any, AV.any, AV.any, AV.any, AV.any, AV.any, AV.any, AV.any, AV.any, AV.any, AV.any, AV.any, AV.any, AV.any]
noncomputable def h50x51_0 (N0 : Nat) (x : Sh.Ts [DotSh.sl, Sh.int IntKind.i64, Sh.int IntKind.i64]) (i9 : Int) : Heap := [Ent.live (Blk.mk (Cells.arr (Sh.st [Sh.int IntKind.i64, Sh.int IntKind.i64]) x.fst) false none)]
noncomputable def tx50x51_0_0 (N0 : Nat) (x : Sh.Ts [DotSh.sl, Sh.int IntKind.i64, Sh.int IntKind.i64]) : List AV := [AV.any, AV.any, AV.any, AV.any, AV.any, AV.any, AV.any, AV.any, AV.val (Value.int IntKind.i64 40), AV.any, AV.any, AV.any, AV.any, AV.any, AV.any, AV.any, AV.any, AV.any, AV.any, AV.any, AV.any, AV.any, AV.any, AV.any, AV.any, AV.any, AV.any, AV.any, AV.any, AV.any, AV.any, AV.any, AV.any, AV.any, AV.any, AV.any, AV.any, AV.any, AV.any, AV.any]
noncomputable def hx50x51_0_0 (N0 : Nat) (x : Sh.Ts [DotSh.sl, Sh.int IntKind.i64, Sh.int IntKind.i64]) : Heap := [Ent.live (Blk.mk (Cells.arr (Sh.st [Sh.int IntKind.i64, Sh.int IntKind.i64]) x.fst) false none)]
noncomputable def tx50x51_0_1 (N0 : Nat) (x : Sh.Ts [DotSh.sl, Sh.int IntKind.i64, Sh.int IntKind.i64]) : List AV := [AV.any, AV.any, AV.any, AV.any, AV.any, AV.any, AV.any, AV.any, AV.any, AV.any, AV.any, AV.any, AV.any, AV.any, AV.any, AV.any, AV.any, AV.any, AV.any, AV.any, AV.any, AV.any, AV.any, AV.any, AV.any, AV.any, AV.any, AV.any, AV.any, AV.any, AV.any, AV.any, AV.any, AV.any, AV.any, AV.any, AV.any, AV.any, AV.any, AV.any]
noncomputable def hx50x51_0_1 (N0 : Nat) (x : Sh.Ts [DotSh.sl, Sh.int IntKind.i64, Sh.int IntKind.i64]) : Heap := [Ent.live (Blk.mk (Cells.arr (Sh.st [Sh.int IntKind.i64, Sh.int IntKind.i64]) x.fst) false none)]
noncomputable def law50x51_0 {β : Type} (N0 : Nat) (x : ((List DotT) × Int × Int × Unit)) (k0 : Option β) (k1 : Option β) : Nat → Int → Option β
  | 0, _ => none
  | n + 1, i9 => (bif decide (i9 < (↑(List.length x.fst) : Int)) then (bif decide (0 ≤ i9) && decide (i9 < (↑(List.length x.fst) : Int)) then (Option.bind x.fst[i9.toNat]? fun v10 => (bif decide (v10.snd.fst < x.snd.fst) then k0 else (bif decide (v10.snd.fst > x.snd.snd.fst) then k0 else (Option.bind (fn51 (v10, ())) fun v11 => (bif !v11.fst then k0 else law50x51_0 N0 x k0 k1 n (IntKind.i64.wrap (i9 + 1))))))) else none) else k1)
theorem leq50x51_0 {β : Type} (N0 : Nat) (x : Sh.Ts [DotSh.sl, Sh.int IntKind.i64, Sh.int IntKind.i64]) (K : Exit → List AV → Heap → Option β) : ∀ (n : Nat) (i9 : Int), ln50x51_0 N0 n (t50x51_0 N0 x i9) (h50x51_0 N0 x i9) K = law50x51_0 N0 x (K (Exit.ret) (tx50x51_0_0 N0 x) (hx50x51_0_0 N0 x)) (K (Exit.exit 0) (tx50x51_0_1 N0 x) (hx50x51_0_1 N0 x)) n i9
  | 0, _ => rfl
  | n + 1, i9 => by
    have h : ln50x51_0 N0 (n + 1) (t50x51_0 N0 x i9) (h50x51_0 N0 x i9) K = (bif decide (i9 < (↑(List.length x.fst) : Int)) then (bif decide (0 ≤ i9) && decide (i9 < (↑(List.length x.fst) : Int)) then (Option.bind x.fst[i9.toNat]? fun v10 => (bif decide (v10.snd.fst < x.snd.fst) then K (Exit.ret) (tx50x51_0_0 N0 x) (hx50x51_0_0 N0 x) else (bif decide (v10.snd.fst > x.snd.snd.fst) then K (Exit.ret) (tx50x51_0_0 N0 x) (hx50x51_0_0 N0 x) else (Option.bind (fn51 (v10, ())) fun v11 => (bif !v11.fst then K (Exit.ret) (tx50x51_0_0 N0 x) (hx50x51_0_0 N0 x) else ln50x51_0 N0 n (t50x51_0 N0 x (IntKind.i64.wrap (i9 + 1))) (h50x51_0 N0 x (IntKind.i64.wrap (i9 + 1))) K))))) else none) else K (Exit.exit 0) (tx50x51_0_1 N0 x) (hx50x51_0_1 N0 x)) := by kernel_rfl
    rw [h]
    simp only [decide_self, decide_true, Nat.zero_add, Bool.and_true, Bool.true_and, cond_true, law50x51_0, leq50x51_0 N0 x K n]
theorem rest50x51_0_0 (N0 : Nat) (x : Sh.Ts [DotSh.sl, Sh.int IntKind.i64, Sh.int IntKind.i64]) : rk50x51_0 N0 (Exit.ret) (tx50x51_0_0 N0 x) (hx50x51_0_0 N0 x) = some ((40, ())) := by kernel_rfl
theorem rest50x51_0_1 (N0 : Nat) (x : Sh.Ts [DotSh.sl, Sh.int IntKind.i64, Sh.int IntKind.i64]) : rk50x51_0 N0 (Exit.exit 0) (tx50x51_0_1 N0 x) (hx50x51_0_1 N0 x) = some ((0, ())) := by kernel_rfl
noncomputable def law50x51 (N0 : Nat) (x : ((List DotT) × Int × Int × Unit)) (xs : (Unit)) : Option ((Int × Unit)) := (Option.bind (fn67 (x.fst, ())) fun v0 => (bif v0.fst != 0 then some ((v0.fst, ())) else (law50x51_0 N0 x (some ((40, ()))) (some ((0, ()))) N0 0)))
theorem eq50x51 (N0 : Nat) (x : Sh.Ts [DotSh.sl, Sh.int IntKind.i64, Sh.int IntKind.i64]) (xs : Sh.Ts []) : codeLawC Try.prog env50x51 200 (L50x51 N0) Try.f50 c50x51 [.sl (DotSh), .int .i64, .int .i64] 51 [] [.int .i64] x xs = law50x51 N0 x xs := by
  have h : codeLawC Try.prog env50x51 200 (L50x51 N0) Try.f50 c50x51 [.sl (DotSh), .int .i64, .int .i64] 51 [] [.int .i64] x xs = (bif decide (List.length x.fst = List.length x.fst) && true then (Option.bind (fn67 (x.fst, ())) fun v0 => (bif v0.fst != 0 then some ((v0.fst, ())) else (ln50x51_0 N0 N0 (t50x51_0 N0 x 0) (h50x51_0 N0 x 0) (rk50x51_0 N0)))) else none) := by kernel_rfl
  rw [h]
  unfold law50x51
  simp only [decide_self, decide_true, Nat.zero_add, Bool.and_true, Bool.true_and, cond_true, leq50x51_0, rest50x51_0_0, rest50x51_0_1]
noncomputable def fn50x51 (x : ((List DotT) × Int × Int × Unit)) (xs : (Unit)) : Option ((Int × Unit)) := law50x51 (10 ^ 30) x xs
theorem reads50x51 : ReadsC Try.prog 50 [.sl (DotSh), .int .i64, .int .i64] 51 [] [.int .i64] fn50x51 := (ReadsC.of_code mixed (fn := Try.f50) (c := c50x51) Try.func50 (by kernel_rfl) (by kernel_rfl) env50x51 200 (L50x51_fit _) (by kernel_rfl)).to (eq50x51 _)
noncomputable def s50x51 : Summ Try.prog := reads50x51.summ (by kernel_rfl)
/- chicane/car.free -/
noncomputable def c53 : Code := (Try.f53.body.getD .skip)
noncomputable def env53 : Env Try.prog := []
noncomputable def L53 : Loops Try.prog := []
theorem L53_fit : (L53).fit c53 := Loops.fit_nil
noncomputable def law53 (x : (DotT × Unit)) : Option ((Bool × Unit)) := some ((true, ()))
theorem eq53 (x : Sh.Ts [DotSh]) : codeLaw Try.prog env53 200 (L53) Try.f53 c53 [DotSh] [.bool] x = law53 x := by kernel_rfl
noncomputable def fn53 (x : (DotT × Unit)) : Option ((Bool × Unit)) := law53 x
theorem reads53 : Reads Try.prog 53 [DotSh] [.bool] fn53 := (Reads.of_code mixed (fn := Try.f53) (c := c53) Try.func53 (by kernel_rfl) (by kernel_rfl) env53 200 (L53_fit) (by kernel_rfl)).to (eq53)
noncomputable def s53 : Summ Try.prog := reads53.summ
/- chicane/car.values -/
noncomputable def c50x53 : Code := (Try.f50.body.getD .skip)
noncomputable def env50x53 : Env Try.prog := [s67, s53]
noncomputable def b50x53_0 : Code := ((kid ((subAt c50x53 [0, 1, 0, 1, 1]).getD .skip) 0).getD .skip)
noncomputable def kx50x53_0 : Exit → List Nat | .ret => [8] | _ => []
noncomputable def Li50x53_0 (N0 : Nat) : Loops Try.prog := []
noncomputable def ls50x53_0 (N0 : Nat) : LSumm Try.prog := loopSumm mixed env50x53 200 (Li50x53_0 N0) b50x53_0 (Loops.fit_nil) [1, 2, 3, 17, 18, 19] kx50x53_0 (N0)
noncomputable def ln50x53_0 {β : Type} (N0 : Nat) (n : Nat) (t : List AV) (h : Heap) (K : Exit → List AV → Heap → Option β) : Option β := loopN Try.prog env50x53 (Sh.nes [.sl (DotSh), .int .i64, .int .i64] + Sh.nes [] + List.length (α := Sh) []) 200 (Li50x53_0 N0) b50x53_0 [1, 2, 3, 17, 18, 19] kx50x53_0 n t h K
noncomputable def L50x53 (N0 : Nat) : Loops Try.prog := [([0, 1, 0, 1, 1], ls50x53_0 N0)]
theorem L50x53_fit (N0 : Nat) : (L50x53 N0).fit c50x53 := Loops.fit_cons (by kernel_rfl) (Loops.fit_nil)
noncomputable def K50x53 : Exit → List AV → Heap → Option (Sh.Ts [.int .i64]) := fun e t h => outK (P := Try.prog) Try.f50 [.int .i64] e t h
noncomputable def rk50x53_0 (N0 : Nat) : Exit → List AV → Heap → Option (Sh.Ts [.int .i64]) := (blkK 0 (seqK Try.prog env50x53 (Sh.nes [.sl (DotSh), .int .i64, .int .i64] + Sh.nes [] + List.length (α := Sh) []) 197 (L50x53 N0) [1, 1, 1] ((subAt c50x53 [1, 1, 1]).getD .skip) K50x53))
noncomputable def t50x53_0 (N0 : Nat) (x : Sh.Ts [DotSh.sl, Sh.int IntKind.i64, Sh.int IntKind.i64]) (i8 : Int) : List AV := [AV.any, AV.val (Value.int IntKind.i64 x.snd.fst), AV.val (Value.int IntKind.i64 x.snd.snd.fst), AV.fn (Fn.func 53) [] [], AV.any, AV.any, AV.any, AV.any, AV.any, AV.any, AV.any, AV.any, AV.any, AV.any, AV.any, AV.any, AV.any, AV.slc 0 0 (List.length x.fst) Cap.low, AV.val (Value.int IntKind.i64 (↑(List.length x.fst) : Int)), AV.val (Value.int IntKind.i64 i8), AV.any, AV.any, AV.any, AV.any, AV.any, AV.any, AV.any, AV.any, AV.any, AV.any, AV.any, AV.any, AV.any, AV.any, AV.any, AV.any, AV.any, AV.any, AV.any, AV.any]
noncomputable def h50x53_0 (N0 : Nat) (x : Sh.Ts [DotSh.sl, Sh.int IntKind.i64, Sh.int IntKind.i64]) (i8 : Int) : Heap := [Ent.live (Blk.mk (Cells.arr (Sh.st [Sh.int IntKind.i64, Sh.int IntKind.i64]) x.fst) false none)]
noncomputable def tx50x53_0_0 (N0 : Nat) (x : Sh.Ts [DotSh.sl, Sh.int IntKind.i64, Sh.int IntKind.i64]) : List AV := [AV.any, AV.any, AV.any, AV.any, AV.any, AV.any, AV.any, AV.any, AV.val (Value.int IntKind.i64 40), AV.any, AV.any, AV.any, AV.any, AV.any, AV.any, AV.any, AV.any, AV.any, AV.any, AV.any, AV.any, AV.any, AV.any, AV.any, AV.any, AV.any, AV.any, AV.any, AV.any, AV.any, AV.any, AV.any, AV.any, AV.any, AV.any, AV.any, AV.any, AV.any, AV.any, AV.any]
noncomputable def hx50x53_0_0 (N0 : Nat) (x : Sh.Ts [DotSh.sl, Sh.int IntKind.i64, Sh.int IntKind.i64]) : Heap := [Ent.live (Blk.mk (Cells.arr (Sh.st [Sh.int IntKind.i64, Sh.int IntKind.i64]) x.fst) false none)]
noncomputable def tx50x53_0_1 (N0 : Nat) (x : Sh.Ts [DotSh.sl, Sh.int IntKind.i64, Sh.int IntKind.i64]) : List AV := [AV.any, AV.any, AV.any, AV.any, AV.any, AV.any, AV.any, AV.any, AV.any, AV.any, AV.any, AV.any, AV.any, AV.any, AV.any, AV.any, AV.any, AV.any, AV.any, AV.any, AV.any, AV.any, AV.any, AV.any, AV.any, AV.any, AV.any, AV.any, AV.any, AV.any, AV.any, AV.any, AV.any, AV.any, AV.any, AV.any, AV.any, AV.any, AV.any, AV.any]
noncomputable def hx50x53_0_1 (N0 : Nat) (x : Sh.Ts [DotSh.sl, Sh.int IntKind.i64, Sh.int IntKind.i64]) : Heap := [Ent.live (Blk.mk (Cells.arr (Sh.st [Sh.int IntKind.i64, Sh.int IntKind.i64]) x.fst) false none)]
noncomputable def law50x53_0 {β : Type} (N0 : Nat) (x : ((List DotT) × Int × Int × Unit)) (k0 : Option β) (k1 : Option β) : Nat → Int → Option β
  | 0, _ => none
  | n + 1, i8 => (bif decide (i8 < (↑(List.length x.fst) : Int)) then (bif decide (0 ≤ i8) && decide (i8 < (↑(List.length x.fst) : Int)) then (Option.bind x.fst[i8.toNat]? fun v9 => (bif decide (v9.snd.fst < x.snd.fst) then k0 else (bif decide (v9.snd.fst > x.snd.snd.fst) then k0 else law50x53_0 N0 x k0 k1 n (IntKind.i64.wrap (i8 + 1))))) else none) else k1)
theorem leq50x53_0 {β : Type} (N0 : Nat) (x : Sh.Ts [DotSh.sl, Sh.int IntKind.i64, Sh.int IntKind.i64]) (K : Exit → List AV → Heap → Option β) : ∀ (n : Nat) (i8 : Int), ln50x53_0 N0 n (t50x53_0 N0 x i8) (h50x53_0 N0 x i8) K = law50x53_0 N0 x (K (Exit.ret) (tx50x53_0_0 N0 x) (hx50x53_0_0 N0 x)) (K (Exit.exit 0) (tx50x53_0_1 N0 x) (hx50x53_0_1 N0 x)) n i8
  | 0, _ => rfl
  | n + 1, i8 => by
    have h : ln50x53_0 N0 (n + 1) (t50x53_0 N0 x i8) (h50x53_0 N0 x i8) K = (bif decide (i8 < (↑(List.length x.fst) : Int)) then (bif decide (0 ≤ i8) && decide (i8 < (↑(List.length x.fst) : Int)) then (Option.bind x.fst[i8.toNat]? fun v9 => (bif decide (v9.snd.fst < x.snd.fst) then K (Exit.ret) (tx50x53_0_0 N0 x) (hx50x53_0_0 N0 x) else (bif decide (v9.snd.fst > x.snd.snd.fst) then K (Exit.ret) (tx50x53_0_0 N0 x) (hx50x53_0_0 N0 x) else ln50x53_0 N0 n (t50x53_0 N0 x (IntKind.i64.wrap (i8 + 1))) (h50x53_0 N0 x (IntKind.i64.wrap (i8 + 1))) K))) else none) else K (Exit.exit 0) (tx50x53_0_1 N0 x) (hx50x53_0_1 N0 x)) := by kernel_rfl
    rw [h]
    simp only [decide_self, decide_true, Nat.zero_add, Bool.and_true, Bool.true_and, cond_true, law50x53_0, leq50x53_0 N0 x K n]
theorem rest50x53_0_0 (N0 : Nat) (x : Sh.Ts [DotSh.sl, Sh.int IntKind.i64, Sh.int IntKind.i64]) : rk50x53_0 N0 (Exit.ret) (tx50x53_0_0 N0 x) (hx50x53_0_0 N0 x) = some ((40, ())) := by kernel_rfl
theorem rest50x53_0_1 (N0 : Nat) (x : Sh.Ts [DotSh.sl, Sh.int IntKind.i64, Sh.int IntKind.i64]) : rk50x53_0 N0 (Exit.exit 0) (tx50x53_0_1 N0 x) (hx50x53_0_1 N0 x) = some ((0, ())) := by kernel_rfl
noncomputable def law50x53 (N0 : Nat) (x : ((List DotT) × Int × Int × Unit)) (xs : (Unit)) : Option ((Int × Unit)) := (Option.bind (fn67 (x.fst, ())) fun v0 => (bif v0.fst != 0 then some ((v0.fst, ())) else (law50x53_0 N0 x (some ((40, ()))) (some ((0, ()))) N0 0)))
theorem eq50x53 (N0 : Nat) (x : Sh.Ts [DotSh.sl, Sh.int IntKind.i64, Sh.int IntKind.i64]) (xs : Sh.Ts []) : codeLawC Try.prog env50x53 200 (L50x53 N0) Try.f50 c50x53 [.sl (DotSh), .int .i64, .int .i64] 53 [] [.int .i64] x xs = law50x53 N0 x xs := by
  have h : codeLawC Try.prog env50x53 200 (L50x53 N0) Try.f50 c50x53 [.sl (DotSh), .int .i64, .int .i64] 53 [] [.int .i64] x xs = (bif decide (List.length x.fst = List.length x.fst) && true then (Option.bind (fn67 (x.fst, ())) fun v0 => (bif v0.fst != 0 then some ((v0.fst, ())) else (ln50x53_0 N0 N0 (t50x53_0 N0 x 0) (h50x53_0 N0 x 0) (rk50x53_0 N0)))) else none) := by kernel_rfl
  rw [h]
  unfold law50x53
  simp only [decide_self, decide_true, Nat.zero_add, Bool.and_true, Bool.true_and, cond_true, leq50x53_0, rest50x53_0_0, rest50x53_0_1]
noncomputable def fn50x53 (x : ((List DotT) × Int × Int × Unit)) (xs : (Unit)) : Option ((Int × Unit)) := law50x53 (10 ^ 30) x xs
theorem reads50x53 : ReadsC Try.prog 50 [.sl (DotSh), .int .i64, .int .i64] 53 [] [.int .i64] fn50x53 := (ReadsC.of_code mixed (fn := Try.f50) (c := c50x53) Try.func50 (by kernel_rfl) (by kernel_rfl) env50x53 200 (L50x53_fit _) (by kernel_rfl)).to (eq50x53 _)
noncomputable def s50x53 : Summ Try.prog := reads50x53.summ (by kernel_rfl)
/- chicane/pane.far -/
noncomputable def c77 : Code := (Try.f77.body.getD .skip)
noncomputable def env77 : Env Try.prog := []
noncomputable def L77 : Loops Try.prog := []
theorem L77_fit : (L77).fit c77 := Loops.fit_nil
noncomputable def law77 (x : (Int × Unit)) : Option ((Bool × Unit)) := (bif decide (x.fst > 4503599627370496) then some ((true, ())) else some ((decide (x.fst < -4503599627370496), ())))
theorem eq77 (x : Sh.Ts [Sh.int IntKind.i64]) : codeLaw Try.prog env77 200 (L77) Try.f77 c77 [.int .i64] [.bool] x = law77 x := by kernel_rfl
noncomputable def fn77 (x : (Int × Unit)) : Option ((Bool × Unit)) := law77 x
theorem reads77 : Reads Try.prog 77 [.int .i64] [.bool] fn77 := (Reads.of_code mixed (fn := Try.f77) (c := c77) Try.func77 (by kernel_rfl) (by kernel_rfl) env77 200 (L77_fit) (by kernel_rfl)).to (eq77)
noncomputable def s77 : Summ Try.prog := reads77.summ
/- slices.IndexFunc[[]chicane/api.Fx,chicane/api.Fx] -/
noncomputable def c85x77 : Code := (Try.f85.body.getD .skip)
noncomputable def env85x77 : Env Try.prog := [s77]
noncomputable def b85x77_0 : Code := ((kid ((subAt c85x77 [0, 1, 0, 1]).getD .skip) 0).getD .skip)
noncomputable def kx85x77_0 : Exit → List Nat | .ret => [4] | _ => []
noncomputable def Li85x77_0 (N0 : Nat) : Loops Try.prog := []
noncomputable def ls85x77_0 (N0 : Nat) : LSumm Try.prog := loopSumm mixed env85x77 200 (Li85x77_0 N0) b85x77_0 (Loops.fit_nil) [0, 1, 7, 8] kx85x77_0 (N0)
noncomputable def ln85x77_0 {β : Type} (N0 : Nat) (n : Nat) (t : List AV) (h : Heap) (K : Exit → List AV → Heap → Option β) : Option β := loopN Try.prog env85x77 (Sh.nes [.sl (.int .i64)] + Sh.nes [] + List.length (α := Sh) []) 200 (Li85x77_0 N0) b85x77_0 [0, 1, 7, 8] kx85x77_0 n t h K
noncomputable def L85x77 (N0 : Nat) : Loops Try.prog := [([0, 1, 0, 1], ls85x77_0 N0)]
theorem L85x77_fit (N0 : Nat) : (L85x77 N0).fit c85x77 := Loops.fit_cons (by kernel_rfl) (Loops.fit_nil)
noncomputable def K85x77 : Exit → List AV → Heap → Option (Sh.Ts [.int .i64]) := fun e t h => outK (P := Try.prog) Try.f85 [.int .i64] e t h
noncomputable def rk85x77_0 (N0 : Nat) : Exit → List AV → Heap → Option (Sh.Ts [.int .i64]) := (blkK 0 (seqK Try.prog env85x77 (Sh.nes [.sl (.int .i64)] + Sh.nes [] + List.length (α := Sh) []) 198 (L85x77 N0) [1, 1] ((subAt c85x77 [1, 1]).getD .skip) K85x77))
noncomputable def t85x77_0 (N0 : Nat) (x : Sh.Ts [(Sh.int IntKind.i64).sl]) (i6 : Int) : List AV := [AV.slc 0 0 (List.length x.fst) Cap.low, AV.fn (Fn.func 77) [] [], AV.any, AV.any, AV.any, AV.any, AV.any, AV.val (Value.int IntKind.i64 (↑(List.length x.fst) : Int)), AV.val (Value.int IntKind.i64 i6), AV.any, AV.any, AV.any, AV.any, AV.any, AV.any, AV.any, AV.any, AV.any, AV.any]
noncomputable def h85x77_0 (N0 : Nat) (x : Sh.Ts [(Sh.int IntKind.i64).sl]) (i6 : Int) : Heap := [Ent.live (Blk.mk (Cells.arr (Sh.int IntKind.i64) x.fst) false none)]
noncomputable def tx85x77_0_0 (N0 : Nat) (x : Sh.Ts [(Sh.int IntKind.i64).sl]) (w9 : Int) : List AV := [AV.any, AV.any, AV.any, AV.any, AV.val (Value.int IntKind.i64 w9), AV.any, AV.any, AV.any, AV.any, AV.any, AV.any, AV.any, AV.any, AV.any, AV.any, AV.any, AV.any, AV.any, AV.any]
noncomputable def hx85x77_0_0 (N0 : Nat) (x : Sh.Ts [(Sh.int IntKind.i64).sl]) (w9 : Int) : Heap := [Ent.live (Blk.mk (Cells.arr (Sh.int IntKind.i64) x.fst) false none)]
noncomputable def tx85x77_0_1 (N0 : Nat) (x : Sh.Ts [(Sh.int IntKind.i64).sl]) : List AV := [AV.any, AV.any, AV.any, AV.any, AV.any, AV.any, AV.any, AV.any, AV.any, AV.any, AV.any, AV.any, AV.any, AV.any, AV.any, AV.any, AV.any, AV.any, AV.any]
noncomputable def hx85x77_0_1 (N0 : Nat) (x : Sh.Ts [(Sh.int IntKind.i64).sl]) : Heap := [Ent.live (Blk.mk (Cells.arr (Sh.int IntKind.i64) x.fst) false none)]
noncomputable def law85x77_0 {β : Type} (N0 : Nat) (x : ((List Int) × Unit)) (k0 : Int → Option β) (k1 : Option β) : Nat → Int → Option β
  | 0, _ => none
  | n + 1, i6 => (bif decide (i6 < (↑(List.length x.fst) : Int)) then (bif decide (0 ≤ i6) && decide (i6 < (↑(List.length x.fst) : Int)) then (Option.bind x.fst[i6.toNat]? fun v7 => (Option.bind (fn77 (v7, ())) fun v8 => (bif v8.fst then k0 i6 else law85x77_0 N0 x k0 k1 n (IntKind.i64.wrap (i6 + 1))))) else none) else k1)
theorem leq85x77_0 {β : Type} (N0 : Nat) (x : Sh.Ts [(Sh.int IntKind.i64).sl]) (K : Exit → List AV → Heap → Option β) : ∀ (n : Nat) (i6 : Int), ln85x77_0 N0 n (t85x77_0 N0 x i6) (h85x77_0 N0 x i6) K = law85x77_0 N0 x (fun w9 => K (Exit.ret) (tx85x77_0_0 N0 x w9) (hx85x77_0_0 N0 x w9)) (K (Exit.exit 0) (tx85x77_0_1 N0 x) (hx85x77_0_1 N0 x)) n i6
  | 0, _ => rfl
  | n + 1, i6 => by
    have h : ln85x77_0 N0 (n + 1) (t85x77_0 N0 x i6) (h85x77_0 N0 x i6) K = (bif decide (i6 < (↑(List.length x.fst) : Int)) then (bif decide (0 ≤ i6) && decide (i6 < (↑(List.length x.fst) : Int)) then (Option.bind (x.fst[0 + i6.toNat]?) fun v7 => (Option.bind (fn77 (v7, ())) fun v8 => (bif v8.fst then K (Exit.ret) (tx85x77_0_0 N0 x i6) (hx85x77_0_0 N0 x i6) else ln85x77_0 N0 n (t85x77_0 N0 x (IntKind.i64.wrap (i6 + 1))) (h85x77_0 N0 x (IntKind.i64.wrap (i6 + 1))) K))) else none) else K (Exit.exit 0) (tx85x77_0_1 N0 x) (hx85x77_0_1 N0 x)) := by kernel_rfl
    rw [h]
    simp only [decide_self, decide_true, Nat.zero_add, Bool.and_true, Bool.true_and, cond_true, law85x77_0, leq85x77_0 N0 x K n]
theorem rest85x77_0_0 (N0 : Nat) (x : Sh.Ts [(Sh.int IntKind.i64).sl]) (w10 : Int) : rk85x77_0 N0 (Exit.ret) (tx85x77_0_0 N0 x w10) (hx85x77_0_0 N0 x w10) = some ((w10, ())) := by kernel_rfl
theorem rest85x77_0_1 (N0 : Nat) (x : Sh.Ts [(Sh.int IntKind.i64).sl]) : rk85x77_0 N0 (Exit.exit 0) (tx85x77_0_1 N0 x) (hx85x77_0_1 N0 x) = some ((-1, ())) := by kernel_rfl
noncomputable def law85x77 (N0 : Nat) (x : ((List Int) × Unit)) (xs : (Unit)) : Option ((Int × Unit)) := (law85x77_0 N0 x (fun w10 => some ((w10, ()))) (some ((-1, ()))) N0 0)
theorem eq85x77 (N0 : Nat) (x : Sh.Ts [(Sh.int IntKind.i64).sl]) (xs : Sh.Ts []) : codeLawC Try.prog env85x77 200 (L85x77 N0) Try.f85 c85x77 [.sl (.int .i64)] 77 [] [.int .i64] x xs = law85x77 N0 x xs := by
  have h : codeLawC Try.prog env85x77 200 (L85x77 N0) Try.f85 c85x77 [.sl (.int .i64)] 77 [] [.int .i64] x xs = (ln85x77_0 N0 N0 (t85x77_0 N0 x 0) (h85x77_0 N0 x 0) (rk85x77_0 N0)) := by kernel_rfl
  rw [h]
  unfold law85x77
  simp only [decide_self, decide_true, Nat.zero_add, Bool.and_true, Bool.true_and, cond_true, leq85x77_0, rest85x77_0_0, rest85x77_0_1]
noncomputable def fn85x77 (x : ((List Int) × Unit)) (xs : (Unit)) : Option ((Int × Unit)) := law85x77 (10 ^ 30) x xs
theorem reads85x77 : ReadsC Try.prog 85 [.sl (.int .i64)] 77 [] [.int .i64] fn85x77 := (ReadsC.of_code mixed (fn := Try.f85) (c := c85x77) Try.func85 (by kernel_rfl) (by kernel_rfl) env85x77 200 (L85x77_fit _) (by kernel_rfl)).to (eq85x77 _)
noncomputable def s85x77 : Summ Try.prog := reads85x77.summ (by kernel_rfl)
noncomputable def s85 : Summ Try.prog := s85x77
/- slices.ContainsFunc[[]chicane/api.Fx,chicane/api.Fx] -/
noncomputable def c76x77 : Code := (Try.f76.body.getD .skip)
noncomputable def env76x77 : Env Try.prog := [s85, s77]
noncomputable def L76x77 : Loops Try.prog := []
theorem L76x77_fit : (L76x77).fit c76x77 := Loops.fit_nil
noncomputable def law76x77 (x : ((List Int) × Unit)) (xs : (Unit)) : Option ((Bool × Unit)) := (Option.bind (fn85x77 x ()) fun v0 => some ((decide (v0.fst ≥ 0), ())))
theorem eq76x77 (x : Sh.Ts [(Sh.int IntKind.i64).sl]) (xs : Sh.Ts []) : codeLawC Try.prog env76x77 200 (L76x77) Try.f76 c76x77 [.sl (.int .i64)] 77 [] [.bool] x xs = law76x77 x xs := by
  have h : codeLawC Try.prog env76x77 200 (L76x77) Try.f76 c76x77 [.sl (.int .i64)] 77 [] [.bool] x xs = (bif decide (List.length x.fst = List.length x.fst) && true && true then (Option.bind (fn85x77 x ()) fun v0 => some ((decide (v0.fst ≥ 0), ()))) else none) := by kernel_rfl
  rw [h]
  unfold law76x77
  simp only [decide_self, decide_true, Nat.zero_add, Bool.and_true, Bool.true_and, cond_true]
noncomputable def fn76x77 (x : ((List Int) × Unit)) (xs : (Unit)) : Option ((Bool × Unit)) := law76x77 x xs
theorem reads76x77 : ReadsC Try.prog 76 [.sl (.int .i64)] 77 [] [.bool] fn76x77 := (ReadsC.of_code mixed (fn := Try.f76) (c := c76x77) Try.func76 (by kernel_rfl) (by kernel_rfl) env76x77 200 (L76x77_fit) (by kernel_rfl)).to (eq76x77)
noncomputable def s76x77 : Summ Try.prog := reads76x77.summ (by kernel_rfl)
noncomputable def s76 : Summ Try.prog := s76x77
/- chicane/pane.Right$1 -/
noncomputable def c75 : Code := (Try.f75.body.getD .skip)
noncomputable def env75 : Env Try.prog := [s76, s77]
noncomputable def L75 : Loops Try.prog := []
theorem L75_fit : (L75).fit c75 := Loops.fit_nil
noncomputable def law75 (x : ((List Int) × Unit)) : Option ((Bool × Unit)) := (Option.bind (fn76x77 x ()) fun v0 => some ((v0.fst, ())))
theorem eq75 (x : Sh.Ts [(Sh.int IntKind.i64).sl]) : codeLaw Try.prog env75 200 (L75) Try.f75 c75 [.sl (.int .i64)] [.bool] x = law75 x := by
  have h : codeLaw Try.prog env75 200 (L75) Try.f75 c75 [.sl (.int .i64)] [.bool] x = (bif decide (List.length x.fst = List.length x.fst) && true && true then (Option.bind (fn76x77 x ()) fun v0 => some ((v0.fst, ()))) else none) := by kernel_rfl
  rw [h]
  unfold law75
  simp only [decide_self, decide_true, Nat.zero_add, Bool.and_true, Bool.true_and, cond_true]
noncomputable def fn75 (x : ((List Int) × Unit)) : Option ((Bool × Unit)) := law75 x
theorem reads75 : Reads Try.prog 75 [.sl (.int .i64)] [.bool] fn75 := (Reads.of_code mixed (fn := Try.f75) (c := c75) Try.func75 (by kernel_rfl) (by kernel_rfl) env75 200 (L75_fit) (by kernel_rfl)).to (eq75)
noncomputable def s75 : Summ Try.prog := reads75.summ
/- chicane/pane.counted$1 -/
noncomputable def c86 : Code := (Try.f86.body.getD .skip)
noncomputable def env86 : Env Try.prog := []
noncomputable def L86 : Loops Try.prog := []
theorem L86_fit : (L86).fit c86 := Loops.fit_nil
noncomputable def law86 (x : (Int × Unit)) : Option ((Bool × Unit)) := (bif decide (2 ≤ x.fst) then some ((decide (x.fst ≤ 32), ())) else some ((false, ())))
theorem eq86 (x : Sh.Ts [Sh.int IntKind.i64]) : codeLaw Try.prog env86 200 (L86) Try.f86 c86 [.int .i64] [.bool] x = law86 x := by kernel_rfl
noncomputable def fn86 (x : (Int × Unit)) : Option ((Bool × Unit)) := law86 x
theorem reads86 : Reads Try.prog 86 [.int .i64] [.bool] fn86 := (Reads.of_code mixed (fn := Try.f86) (c := c86) Try.func86 (by kernel_rfl) (by kernel_rfl) env86 200 (L86_fit) (by kernel_rfl)).to (eq86)
noncomputable def s86 : Summ Try.prog := reads86.summ
/- chicane/pane.counted$2 -/
noncomputable def c87 : Code := (Try.f87.body.getD .skip)
noncomputable def env87 : Env Try.prog := []
noncomputable def s87 : Summ Try.prog := inlSumm onlyM mixed 87 Try.f87 c87 Try.func87 (by kernel_rfl) (by kernel_rfl) env87 200 [] Loops.fit_nil
/- slices.IndexFunc[[][]chicane/api.Fx,[]chicane/api.Fx] -/
noncomputable def c88x75 : Code := (Try.f88.body.getD .skip)
noncomputable def env88x75 : Env Try.prog := [s75]
noncomputable def b88x75_0 : Code := ((kid ((subAt c88x75 [0, 1, 0, 1]).getD .skip) 0).getD .skip)
noncomputable def kx88x75_0 : Exit → List Nat | .ret => [4] | _ => []
noncomputable def Li88x75_0 (N0 : Nat) : Loops Try.prog := []
noncomputable def ls88x75_0 (N0 : Nat) : LSumm Try.prog := loopSumm mixed env88x75 200 (Li88x75_0 N0) b88x75_0 (Loops.fit_nil) [0, 1, 7, 8] kx88x75_0 (N0)
noncomputable def ln88x75_0 {β : Type} (N0 : Nat) (n : Nat) (t : List AV) (h : Heap) (K : Exit → List AV → Heap → Option β) : Option β := loopN Try.prog env88x75 (Sh.nes [.rows (.int .i64)] + Sh.nes [] + List.length (α := Sh) []) 200 (Li88x75_0 N0) b88x75_0 [0, 1, 7, 8] kx88x75_0 n t h K
noncomputable def L88x75 (N0 : Nat) : Loops Try.prog := [([0, 1, 0, 1], ls88x75_0 N0)]
theorem L88x75_fit (N0 : Nat) : (L88x75 N0).fit c88x75 := Loops.fit_cons (by kernel_rfl) (Loops.fit_nil)
noncomputable def K88x75 : Exit → List AV → Heap → Option (Sh.Ts [.int .i64]) := fun e t h => outK (P := Try.prog) Try.f88 [.int .i64] e t h
noncomputable def rk88x75_0 (N0 : Nat) : Exit → List AV → Heap → Option (Sh.Ts [.int .i64]) := (blkK 0 (seqK Try.prog env88x75 (Sh.nes [.rows (.int .i64)] + Sh.nes [] + List.length (α := Sh) []) 198 (L88x75 N0) [1, 1] ((subAt c88x75 [1, 1]).getD .skip) K88x75))
noncomputable def t88x75_0 (N0 : Nat) (x : Sh.Ts [(Sh.int IntKind.i64).rows]) (i6 : Int) : List AV := [AV.slc 0 0 (List.length x.fst) Cap.low, AV.fn (Fn.func 75) [] [], AV.any, AV.any, AV.any, AV.any, AV.any, AV.val (Value.int IntKind.i64 (↑(List.length x.fst) : Int)), AV.val (Value.int IntKind.i64 i6), AV.any, AV.any, AV.any, AV.any, AV.any, AV.any, AV.any, AV.any, AV.any, AV.any]
noncomputable def h88x75_0 (N0 : Nat) (x : Sh.Ts [(Sh.int IntKind.i64).rows]) (i6 : Int) : Heap := [Ent.live (Blk.mk (Cells.arrs (Sh.int IntKind.i64) x.fst) false none)]
noncomputable def tx88x75_0_0 (N0 : Nat) (x : Sh.Ts [(Sh.int IntKind.i64).rows]) (w9 : Int) : List AV := [AV.any, AV.any, AV.any, AV.any, AV.val (Value.int IntKind.i64 w9), AV.any, AV.any, AV.any, AV.any, AV.any, AV.any, AV.any, AV.any, AV.any, AV.any, AV.any, AV.any, AV.any, AV.any]
noncomputable def hx88x75_0_0 (N0 : Nat) (x : Sh.Ts [(Sh.int IntKind.i64).rows]) (w9 : Int) : Heap := [Ent.live (Blk.mk (Cells.arrs (Sh.int IntKind.i64) x.fst) false none)]
noncomputable def tx88x75_0_1 (N0 : Nat) (x : Sh.Ts [(Sh.int IntKind.i64).rows]) : List AV := [AV.any, AV.any, AV.any, AV.any, AV.any, AV.any, AV.any, AV.any, AV.any, AV.any, AV.any, AV.any, AV.any, AV.any, AV.any, AV.any, AV.any, AV.any, AV.any]
noncomputable def hx88x75_0_1 (N0 : Nat) (x : Sh.Ts [(Sh.int IntKind.i64).rows]) : Heap := [Ent.live (Blk.mk (Cells.arrs (Sh.int IntKind.i64) x.fst) false none)]
noncomputable def law88x75_0 {β : Type} (N0 : Nat) (x : ((List (List Int)) × Unit)) (k0 : Int → Option β) (k1 : Option β) : Nat → Int → Option β
  | 0, _ => none
  | n + 1, i6 => (bif decide (i6 < (↑(List.length x.fst) : Int)) then (bif decide (0 ≤ i6) && decide (i6 < (↑(List.length x.fst) : Int)) then (Option.bind x.fst[i6.toNat]? fun v7 => (Option.bind (fn75 (v7, ())) fun v8 => (bif v8.fst then k0 i6 else law88x75_0 N0 x k0 k1 n (IntKind.i64.wrap (i6 + 1))))) else none) else k1)
theorem leq88x75_0 {β : Type} (N0 : Nat) (x : Sh.Ts [(Sh.int IntKind.i64).rows]) (K : Exit → List AV → Heap → Option β) : ∀ (n : Nat) (i6 : Int), ln88x75_0 N0 n (t88x75_0 N0 x i6) (h88x75_0 N0 x i6) K = law88x75_0 N0 x (fun w9 => K (Exit.ret) (tx88x75_0_0 N0 x w9) (hx88x75_0_0 N0 x w9)) (K (Exit.exit 0) (tx88x75_0_1 N0 x) (hx88x75_0_1 N0 x)) n i6
  | 0, _ => rfl
  | n + 1, i6 => by
    have h : ln88x75_0 N0 (n + 1) (t88x75_0 N0 x i6) (h88x75_0 N0 x i6) K = (bif decide (i6 < (↑(List.length x.fst) : Int)) then (bif decide (0 ≤ i6) && decide (i6 < (↑(List.length x.fst) : Int)) then (Option.bind (x.fst[0 + i6.toNat]?) fun v7 => (bif decide (v7.length = v7.length) && true then (Option.bind (fn75 (v7, ())) fun v8 => (bif v8.fst then K (Exit.ret) (tx88x75_0_0 N0 x i6) (hx88x75_0_0 N0 x i6) else ln88x75_0 N0 n (t88x75_0 N0 x (IntKind.i64.wrap (i6 + 1))) (h88x75_0 N0 x (IntKind.i64.wrap (i6 + 1))) K)) else none)) else none) else K (Exit.exit 0) (tx88x75_0_1 N0 x) (hx88x75_0_1 N0 x)) := by kernel_rfl
    rw [h]
    simp only [decide_self, decide_true, Nat.zero_add, Bool.and_true, Bool.true_and, cond_true, law88x75_0, leq88x75_0 N0 x K n]
theorem rest88x75_0_0 (N0 : Nat) (x : Sh.Ts [(Sh.int IntKind.i64).rows]) (w10 : Int) : rk88x75_0 N0 (Exit.ret) (tx88x75_0_0 N0 x w10) (hx88x75_0_0 N0 x w10) = some ((w10, ())) := by kernel_rfl
theorem rest88x75_0_1 (N0 : Nat) (x : Sh.Ts [(Sh.int IntKind.i64).rows]) : rk88x75_0 N0 (Exit.exit 0) (tx88x75_0_1 N0 x) (hx88x75_0_1 N0 x) = some ((-1, ())) := by kernel_rfl
noncomputable def law88x75 (N0 : Nat) (x : ((List (List Int)) × Unit)) (xs : (Unit)) : Option ((Int × Unit)) := (law88x75_0 N0 x (fun w10 => some ((w10, ()))) (some ((-1, ()))) N0 0)
theorem eq88x75 (N0 : Nat) (x : Sh.Ts [(Sh.int IntKind.i64).rows]) (xs : Sh.Ts []) : codeLawC Try.prog env88x75 200 (L88x75 N0) Try.f88 c88x75 [.rows (.int .i64)] 75 [] [.int .i64] x xs = law88x75 N0 x xs := by
  have h : codeLawC Try.prog env88x75 200 (L88x75 N0) Try.f88 c88x75 [.rows (.int .i64)] 75 [] [.int .i64] x xs = (ln88x75_0 N0 N0 (t88x75_0 N0 x 0) (h88x75_0 N0 x 0) (rk88x75_0 N0)) := by kernel_rfl
  rw [h]
  unfold law88x75
  simp only [decide_self, decide_true, Nat.zero_add, Bool.and_true, Bool.true_and, cond_true, leq88x75_0, rest88x75_0_0, rest88x75_0_1]
noncomputable def fn88x75 (x : ((List (List Int)) × Unit)) (xs : (Unit)) : Option ((Int × Unit)) := law88x75 (10 ^ 30) x xs
theorem reads88x75 : ReadsC Try.prog 88 [.rows (.int .i64)] 75 [] [.int .i64] fn88x75 := (ReadsC.of_code mixed (fn := Try.f88) (c := c88x75) Try.func88 (by kernel_rfl) (by kernel_rfl) env88x75 200 (L88x75_fit _) (by kernel_rfl)).to (eq88x75 _)
noncomputable def s88x75 : Summ Try.prog := reads88x75.summ (by kernel_rfl)
/- slices.IndexFunc[[][]chicane/api.Fx,[]chicane/api.Fx] -/
noncomputable def c88x87 : Code := (Try.f88.body.getD .skip)
noncomputable def env88x87 : Env Try.prog := [s87]
noncomputable def b88x87_0 : Code := ((kid ((subAt c88x87 [0, 1, 0, 1]).getD .skip) 0).getD .skip)
noncomputable def kx88x87_0 : Exit → List Nat | .ret => [4] | _ => []
noncomputable def Li88x87_0 (N0 : Nat) : Loops Try.prog := []
noncomputable def ls88x87_0 (N0 : Nat) : LSumm Try.prog := loopSumm mixed env88x87 200 (Li88x87_0 N0) b88x87_0 (Loops.fit_nil) [0, 1, 7, 8] kx88x87_0 (N0)
noncomputable def ln88x87_0 {β : Type} (N0 : Nat) (n : Nat) (t : List AV) (h : Heap) (K : Exit → List AV → Heap → Option β) : Option β := loopN Try.prog env88x87 (Sh.nes [.rows (.int .i64)] + Sh.nes [PaneSh] + List.length (α := Sh) [PaneSh]) 200 (Li88x87_0 N0) b88x87_0 [0, 1, 7, 8] kx88x87_0 n t h K
noncomputable def L88x87 (N0 : Nat) : Loops Try.prog := [([0, 1, 0, 1], ls88x87_0 N0)]
theorem L88x87_fit (N0 : Nat) : (L88x87 N0).fit c88x87 := Loops.fit_cons (by kernel_rfl) (Loops.fit_nil)
noncomputable def K88x87 : Exit → List AV → Heap → Option (Sh.Ts [.int .i64]) := fun e t h => outK (P := Try.prog) Try.f88 [.int .i64] e t h
noncomputable def rk88x87_0 (N0 : Nat) : Exit → List AV → Heap → Option (Sh.Ts [.int .i64]) := (blkK 0 (seqK Try.prog env88x87 (Sh.nes [.rows (.int .i64)] + Sh.nes [PaneSh] + List.length (α := Sh) [PaneSh]) 198 (L88x87 N0) [1, 1] ((subAt c88x87 [1, 1]).getD .skip) K88x87))
noncomputable def t88x87_0 (N0 : Nat) (x : Sh.Ts [(Sh.int IntKind.i64).rows]) (xs : Sh.Ts [PaneSh]) (i11 : Int) : List AV := [AV.slc 0 0 (List.length x.fst) Cap.low, AV.fn (Fn.func 87) [] [AV.ptr 4 0], AV.any, AV.any, AV.any, AV.any, AV.any, AV.val (Value.int IntKind.i64 (↑(List.length x.fst) : Int)), AV.val (Value.int IntKind.i64 i11), AV.any, AV.any, AV.any, AV.any, AV.any, AV.any, AV.any, AV.any, AV.any, AV.any]
noncomputable def h88x87_0 (N0 : Nat) (x : Sh.Ts [(Sh.int IntKind.i64).rows]) (xs : Sh.Ts [PaneSh]) (i11 : Int) : Heap := [Ent.live (Blk.mk (Cells.arrs (Sh.int IntKind.i64) x.fst) false none), Ent.live (Blk.mk (Cells.arr (Sh.int IntKind.i64) xs.fst.fst) false none), Ent.live (Blk.mk (Cells.arr (Sh.int IntKind.i64) xs.fst.snd.fst) false none), Ent.live (Blk.mk (Cells.arrs (Sh.int IntKind.i64) xs.fst.snd.snd.fst) false none), Ent.live (Blk.mk (Cells.lit [AV.slc 1 0 (List.length xs.fst.fst) Cap.low, AV.slc 2 0 (List.length xs.fst.snd.fst) Cap.low, AV.slc 3 0 (List.length xs.fst.snd.snd.fst) Cap.low]) false none)]
noncomputable def tx88x87_0_0 (N0 : Nat) (x : Sh.Ts [(Sh.int IntKind.i64).rows]) (xs : Sh.Ts [PaneSh]) (w13 : Int) : List AV := [AV.any, AV.any, AV.any, AV.any, AV.val (Value.int IntKind.i64 w13), AV.any, AV.any, AV.any, AV.any, AV.any, AV.any, AV.any, AV.any, AV.any, AV.any, AV.any, AV.any, AV.any, AV.any]
noncomputable def hx88x87_0_0 (N0 : Nat) (x : Sh.Ts [(Sh.int IntKind.i64).rows]) (xs : Sh.Ts [PaneSh]) (w13 : Int) : Heap := [Ent.live (Blk.mk (Cells.arrs (Sh.int IntKind.i64) x.fst) false none), Ent.live (Blk.mk (Cells.arr (Sh.int IntKind.i64) xs.fst.fst) false none), Ent.live (Blk.mk (Cells.arr (Sh.int IntKind.i64) xs.fst.snd.fst) false none), Ent.live (Blk.mk (Cells.arrs (Sh.int IntKind.i64) xs.fst.snd.snd.fst) false none), Ent.live (Blk.mk (Cells.lit [AV.slc 1 0 (List.length xs.fst.fst) Cap.low, AV.slc 2 0 (List.length xs.fst.snd.fst) Cap.low, AV.slc 3 0 (List.length xs.fst.snd.snd.fst) Cap.low]) false none)]
noncomputable def tx88x87_0_1 (N0 : Nat) (x : Sh.Ts [(Sh.int IntKind.i64).rows]) (xs : Sh.Ts [PaneSh]) : List AV := [AV.any, AV.any, AV.any, AV.any, AV.any, AV.any, AV.any, AV.any, AV.any, AV.any, AV.any, AV.any, AV.any, AV.any, AV.any, AV.any, AV.any, AV.any, AV.any]
noncomputable def hx88x87_0_1 (N0 : Nat) (x : Sh.Ts [(Sh.int IntKind.i64).rows]) (xs : Sh.Ts [PaneSh]) : Heap := [Ent.live (Blk.mk (Cells.arrs (Sh.int IntKind.i64) x.fst) false none), Ent.live (Blk.mk (Cells.arr (Sh.int IntKind.i64) xs.fst.fst) false none), Ent.live (Blk.mk (Cells.arr (Sh.int IntKind.i64) xs.fst.snd.fst) false none), Ent.live (Blk.mk (Cells.arrs (Sh.int IntKind.i64) xs.fst.snd.snd.fst) false none), Ent.live (Blk.mk (Cells.lit [AV.slc 1 0 (List.length xs.fst.fst) Cap.low, AV.slc 2 0 (List.length xs.fst.snd.fst) Cap.low, AV.slc 3 0 (List.length xs.fst.snd.snd.fst) Cap.low]) false none)]
noncomputable def law88x87_0 {β : Type} (N0 : Nat) (x : ((List (List Int)) × Unit)) (xs : (PaneT × Unit)) (k0 : Int → Option β) (k1 : Option β) : Nat → Int → Option β
  | 0, _ => none
  | n + 1, i11 => (bif decide (i11 < (↑(List.length x.fst) : Int)) then (bif decide (0 ≤ i11) && decide (i11 < (↑(List.length x.fst) : Int)) then (Option.bind x.fst[i11.toNat]? fun v12 => (bif (↑v12.length : Int) != (↑(List.length xs.fst.fst) : Int) then k0 i11 else law88x87_0 N0 x xs k0 k1 n (IntKind.i64.wrap (i11 + 1)))) else none) else k1)
theorem leq88x87_0 {β : Type} (N0 : Nat) (x : Sh.Ts [(Sh.int IntKind.i64).rows]) (xs : Sh.Ts [PaneSh]) (K : Exit → List AV → Heap → Option β) : ∀ (n : Nat) (i11 : Int), ln88x87_0 N0 n (t88x87_0 N0 x xs i11) (h88x87_0 N0 x xs i11) K = law88x87_0 N0 x xs (fun w13 => K (Exit.ret) (tx88x87_0_0 N0 x xs w13) (hx88x87_0_0 N0 x xs w13)) (K (Exit.exit 0) (tx88x87_0_1 N0 x xs) (hx88x87_0_1 N0 x xs)) n i11
  | 0, _ => rfl
  | n + 1, i11 => by
    have h : ln88x87_0 N0 (n + 1) (t88x87_0 N0 x xs i11) (h88x87_0 N0 x xs i11) K = (bif decide (i11 < (↑(List.length x.fst) : Int)) then (bif decide (0 ≤ i11) && decide (i11 < (↑(List.length x.fst) : Int)) then (Option.bind (x.fst[0 + i11.toNat]?) fun v12 => (bif (↑v12.length : Int) != (↑(List.length xs.fst.fst) : Int) then K (Exit.ret) (tx88x87_0_0 N0 x xs i11) (hx88x87_0_0 N0 x xs i11) else ln88x87_0 N0 n (t88x87_0 N0 x xs (IntKind.i64.wrap (i11 + 1))) (h88x87_0 N0 x xs (IntKind.i64.wrap (i11 + 1))) K)) else none) else K (Exit.exit 0) (tx88x87_0_1 N0 x xs) (hx88x87_0_1 N0 x xs)) := by kernel_rfl
    rw [h]
    simp only [decide_self, decide_true, Nat.zero_add, Bool.and_true, Bool.true_and, cond_true, law88x87_0, leq88x87_0 N0 x xs K n]
theorem rest88x87_0_0 (N0 : Nat) (x : Sh.Ts [(Sh.int IntKind.i64).rows]) (xs : Sh.Ts [PaneSh]) (w14 : Int) : rk88x87_0 N0 (Exit.ret) (tx88x87_0_0 N0 x xs w14) (hx88x87_0_0 N0 x xs w14) = some ((w14, ())) := by kernel_rfl
theorem rest88x87_0_1 (N0 : Nat) (x : Sh.Ts [(Sh.int IntKind.i64).rows]) (xs : Sh.Ts [PaneSh]) : rk88x87_0 N0 (Exit.exit 0) (tx88x87_0_1 N0 x xs) (hx88x87_0_1 N0 x xs) = some ((-1, ())) := by kernel_rfl
noncomputable def law88x87 (N0 : Nat) (x : ((List (List Int)) × Unit)) (xs : (PaneT × Unit)) : Option ((Int × Unit)) := (law88x87_0 N0 x xs (fun w14 => some ((w14, ()))) (some ((-1, ()))) N0 0)
theorem eq88x87 (N0 : Nat) (x : Sh.Ts [(Sh.int IntKind.i64).rows]) (xs : Sh.Ts [PaneSh]) : codeLawC Try.prog env88x87 200 (L88x87 N0) Try.f88 c88x87 [.rows (.int .i64)] 87 [PaneSh] [.int .i64] x xs = law88x87 N0 x xs := by
  have h : codeLawC Try.prog env88x87 200 (L88x87 N0) Try.f88 c88x87 [.rows (.int .i64)] 87 [PaneSh] [.int .i64] x xs = (ln88x87_0 N0 N0 (t88x87_0 N0 x xs 0) (h88x87_0 N0 x xs 0) (rk88x87_0 N0)) := by kernel_rfl
  rw [h]
  unfold law88x87
  simp only [decide_self, decide_true, Nat.zero_add, Bool.and_true, Bool.true_and, cond_true, leq88x87_0, rest88x87_0_0, rest88x87_0_1]
noncomputable def fn88x87 (x : ((List (List Int)) × Unit)) (xs : (PaneT × Unit)) : Option ((Int × Unit)) := law88x87 (10 ^ 30) x xs
theorem reads88x87 : ReadsC Try.prog 88 [.rows (.int .i64)] 87 [PaneSh] [.int .i64] fn88x87 := (ReadsC.of_code mixed (fn := Try.f88) (c := c88x87) Try.func88 (by kernel_rfl) (by kernel_rfl) env88x87 200 (L88x87_fit _) (by kernel_rfl)).to (eq88x87 _)
noncomputable def s88x87 : Summ Try.prog := reads88x87.summ (by kernel_rfl)
noncomputable def s88 : Summ Try.prog := (Summ.choose (lastFn 75) s88x75 s88x87 rfl)
/- slices.ContainsFunc[[][]chicane/api.Fx,[]chicane/api.Fx] -/
noncomputable def c79x75 : Code := (Try.f79.body.getD .skip)
noncomputable def env79x75 : Env Try.prog := [s88, s75]
noncomputable def L79x75 : Loops Try.prog := []
theorem L79x75_fit : (L79x75).fit c79x75 := Loops.fit_nil
noncomputable def law79x75 (x : ((List (List Int)) × Unit)) (xs : (Unit)) : Option ((Bool × Unit)) := (Option.bind (fn88x75 x ()) fun v0 => some ((decide (v0.fst ≥ 0), ())))
theorem eq79x75 (x : Sh.Ts [(Sh.int IntKind.i64).rows]) (xs : Sh.Ts []) : codeLawC Try.prog env79x75 200 (L79x75) Try.f79 c79x75 [.rows (.int .i64)] 75 [] [.bool] x xs = law79x75 x xs := by
  have h : codeLawC Try.prog env79x75 200 (L79x75) Try.f79 c79x75 [.rows (.int .i64)] 75 [] [.bool] x xs = (bif decide (List.length x.fst = List.length x.fst) && true && true then (Option.bind (fn88x75 x ()) fun v0 => some ((decide (v0.fst ≥ 0), ()))) else none) := by kernel_rfl
  rw [h]
  unfold law79x75
  simp only [decide_self, decide_true, Nat.zero_add, Bool.and_true, Bool.true_and, cond_true]
noncomputable def fn79x75 (x : ((List (List Int)) × Unit)) (xs : (Unit)) : Option ((Bool × Unit)) := law79x75 x xs
theorem reads79x75 : ReadsC Try.prog 79 [.rows (.int .i64)] 75 [] [.bool] fn79x75 := (ReadsC.of_code mixed (fn := Try.f79) (c := c79x75) Try.func79 (by kernel_rfl) (by kernel_rfl) env79x75 200 (L79x75_fit) (by kernel_rfl)).to (eq79x75)
noncomputable def s79x75 : Summ Try.prog := reads79x75.summ (by kernel_rfl)
/- slices.ContainsFunc[[][]chicane/api.Fx,[]chicane/api.Fx] -/
noncomputable def c79x87 : Code := (Try.f79.body.getD .skip)
noncomputable def env79x87 : Env Try.prog := [s88, s87]
noncomputable def L79x87 : Loops Try.prog := []
theorem L79x87_fit : (L79x87).fit c79x87 := Loops.fit_nil
noncomputable def law79x87 (x : ((List (List Int)) × Unit)) (xs : (PaneT × Unit)) : Option ((Bool × Unit)) := (Option.bind (fn88x87 x xs) fun v0 => some ((decide (v0.fst ≥ 0), ())))
theorem eq79x87 (x : Sh.Ts [(Sh.int IntKind.i64).rows]) (xs : Sh.Ts [PaneSh]) : codeLawC Try.prog env79x87 200 (L79x87) Try.f79 c79x87 [.rows (.int .i64)] 87 [PaneSh] [.bool] x xs = law79x87 x xs := by
  have h : codeLawC Try.prog env79x87 200 (L79x87) Try.f79 c79x87 [.rows (.int .i64)] 87 [PaneSh] [.bool] x xs = (bif decide (List.length x.fst = List.length x.fst) && true && (decide (List.length xs.fst.fst = List.length xs.fst.fst) && (decide (List.length xs.fst.snd.fst = List.length xs.fst.snd.fst) && (decide (List.length xs.fst.snd.snd.fst = List.length xs.fst.snd.snd.fst) && true)) && true) then (Option.bind (fn88x87 x xs) fun v0 => some ((decide (v0.fst ≥ 0), ()))) else none) := by kernel_rfl
  rw [h]
  unfold law79x87
  simp only [decide_self, decide_true, Nat.zero_add, Bool.and_true, Bool.true_and, cond_true]
noncomputable def fn79x87 (x : ((List (List Int)) × Unit)) (xs : (PaneT × Unit)) : Option ((Bool × Unit)) := law79x87 x xs
theorem reads79x87 : ReadsC Try.prog 79 [.rows (.int .i64)] 87 [PaneSh] [.bool] fn79x87 := (ReadsC.of_code mixed (fn := Try.f79) (c := c79x87) Try.func79 (by kernel_rfl) (by kernel_rfl) env79x87 200 (L79x87_fit) (by kernel_rfl)).to (eq79x87)
noncomputable def s79x87 : Summ Try.prog := reads79x87.summ (by kernel_rfl)
noncomputable def s79 : Summ Try.prog := (Summ.choose (lastFn 75) s79x75 s79x87 rfl)
/- chicane/pane.counted -/
noncomputable def c78 : Code := (Try.f78.body.getD .skip)
noncomputable def env78 : Env Try.prog := [s86, s87, s79]
noncomputable def L78 : Loops Try.prog := []
theorem L78_fit : (L78).fit c78 := Loops.fit_nil
noncomputable def law78 (x : (PaneT × Unit)) : Option ((Bool × Unit)) := (Option.bind (fn86 ((↑(List.length x.fst.fst) : Int), ())) fun v0 => (bif v0.fst then (Option.bind (fn86 ((↑(List.length x.fst.snd.fst) : Int), ())) fun v1 => (bif v1.fst then (bif (↑(List.length x.fst.snd.snd.fst) : Int) == (↑(List.length x.fst.snd.fst) : Int) then (Option.bind (fn79x87 x.fst.snd.snd x) fun v2 => some ((!v2.fst, ()))) else some ((false, ()))) else some ((false, ())))) else some ((false, ()))))
theorem eq78 (x : Sh.Ts [PaneSh]) : codeLaw Try.prog env78 200 (L78) Try.f78 c78 [PaneSh] [.bool] x = law78 x := by
  have h : codeLaw Try.prog env78 200 (L78) Try.f78 c78 [PaneSh] [.bool] x = (Option.bind (fn86 ((↑(List.length x.fst.fst) : Int), ())) fun v0 => (bif v0.fst then (Option.bind (fn86 ((↑(List.length x.fst.snd.fst) : Int), ())) fun v1 => (bif v1.fst then (bif (↑(List.length x.fst.snd.snd.fst) : Int) == (↑(List.length x.fst.snd.fst) : Int) then (bif decide (List.length x.fst.snd.snd.fst = List.length x.fst.snd.snd.fst) && true && (decide (List.length x.fst.fst = List.length x.fst.fst) && (decide (List.length x.fst.snd.fst = List.length x.fst.snd.fst) && (decide (List.length x.fst.snd.snd.fst = List.length x.fst.snd.snd.fst) && true)) && true) then (Option.bind (fn79x87 x.fst.snd.snd x) fun v2 => some ((!v2.fst, ()))) else none) else some ((false, ()))) else some ((false, ())))) else some ((false, ())))) := by kernel_rfl
  rw [h]
  unfold law78
  simp only [decide_self, decide_true, Nat.zero_add, Bool.and_true, Bool.true_and, cond_true]
noncomputable def fn78 (x : (PaneT × Unit)) : Option ((Bool × Unit)) := law78 x
theorem reads78 : Reads Try.prog 78 [PaneSh] [.bool] fn78 := (Reads.of_code mixed (fn := Try.f78) (c := c78) Try.func78 (by kernel_rfl) (by kernel_rfl) env78 200 (L78_fit) (by kernel_rfl)).to (eq78)
noncomputable def s78 : Summ Try.prog := reads78.summ
/- chicane/pane.rises$1 -/
noncomputable def c90 : Code := (Try.f90.body.getD .skip)
noncomputable def env90 : Env Try.prog := []
noncomputable def L90 : Loops Try.prog := []
theorem L90_fit : (L90).fit c90 := Loops.fit_nil
noncomputable def law90 (x : (Int × Int × Unit)) : Option ((Int × Unit)) := (bif decide (x.fst > x.snd.fst) then some ((1, ())) else some ((-1, ())))
theorem eq90 (x : Sh.Ts [Sh.int IntKind.i64, Sh.int IntKind.i64]) : codeLaw Try.prog env90 200 (L90) Try.f90 c90 [.int .i64, .int .i64] [.int .i64] x = law90 x := by kernel_rfl
noncomputable def fn90 (x : (Int × Int × Unit)) : Option ((Int × Unit)) := law90 x
theorem reads90 : Reads Try.prog 90 [.int .i64, .int .i64] [.int .i64] fn90 := (Reads.of_code mixed (fn := Try.f90) (c := c90) Try.func90 (by kernel_rfl) (by kernel_rfl) env90 200 (L90_fit) (by kernel_rfl)).to (eq90)
noncomputable def s90 : Summ Try.prog := reads90.summ
/- slices.IsSortedFunc[[]chicane/api.Fx,chicane/api.Fx] -/
noncomputable def c89x90 : Code := (Try.f89.body.getD .skip)
noncomputable def env89x90 : Env Try.prog := [s90]
noncomputable def b89x90_0 : Code := ((kid ((subAt c89x90 [0, 1, 0, 1]).getD .skip) 0).getD .skip)
noncomputable def kx89x90_0 : Exit → List Nat | .ret => [4] | _ => []
noncomputable def Li89x90_0 (N0 : Nat) : Loops Try.prog := []
noncomputable def ls89x90_0 (N0 : Nat) : LSumm Try.prog := loopSumm mixed env89x90 200 (Li89x90_0 N0) b89x90_0 (Loops.fit_nil) [0, 1, 5] kx89x90_0 (N0)
noncomputable def ln89x90_0 {β : Type} (N0 : Nat) (n : Nat) (t : List AV) (h : Heap) (K : Exit → List AV → Heap → Option β) : Option β := loopN Try.prog env89x90 (Sh.nes [.sl (.int .i64)] + Sh.nes [] + List.length (α := Sh) []) 200 (Li89x90_0 N0) b89x90_0 [0, 1, 5] kx89x90_0 n t h K
noncomputable def L89x90 (N0 : Nat) : Loops Try.prog := [([0, 1, 0, 1], ls89x90_0 N0)]
theorem L89x90_fit (N0 : Nat) : (L89x90 N0).fit c89x90 := Loops.fit_cons (by kernel_rfl) (Loops.fit_nil)
noncomputable def K89x90 : Exit → List AV → Heap → Option (Sh.Ts [.bool]) := fun e t h => outK (P := Try.prog) Try.f89 [.bool] e t h
noncomputable def rk89x90_0 (N0 : Nat) : Exit → List AV → Heap → Option (Sh.Ts [.bool]) := (blkK 0 (seqK Try.prog env89x90 (Sh.nes [.sl (.int .i64)] + Sh.nes [] + List.length (α := Sh) []) 198 (L89x90 N0) [1, 1] ((subAt c89x90 [1, 1]).getD .skip) K89x90))
noncomputable def t89x90_0 (N0 : Nat) (x : Sh.Ts [(Sh.int IntKind.i64).sl]) (i6 : Int) : List AV := [AV.slc 0 0 (List.length x.fst) Cap.low, AV.fn (Fn.func 90) [] [], AV.any, AV.any, AV.any, AV.val (Value.int IntKind.i64 i6), AV.any, AV.any, AV.any, AV.any, AV.any, AV.any, AV.any, AV.any, AV.any, AV.any, AV.any, AV.any, AV.any, AV.any, AV.any, AV.any, AV.any, AV.any, AV.any]
noncomputable def h89x90_0 (N0 : Nat) (x : Sh.Ts [(Sh.int IntKind.i64).sl]) (i6 : Int) : Heap := [Ent.live (Blk.mk (Cells.arr (Sh.int IntKind.i64) x.fst) false none)]
noncomputable def tx89x90_0_0 (N0 : Nat) (x : Sh.Ts [(Sh.int IntKind.i64).sl]) : List AV := [AV.any, AV.any, AV.any, AV.any, AV.val (Value.bool false), AV.any, AV.any, AV.any, AV.any, AV.any, AV.any, AV.any, AV.any, AV.any, AV.any, AV.any, AV.any, AV.any, AV.any, AV.any, AV.any, AV.any, AV.any, AV.any, AV.any]
noncomputable def hx89x90_0_0 (N0 : Nat) (x : Sh.Ts [(Sh.int IntKind.i64).sl]) : Heap := [Ent.live (Blk.mk (Cells.arr (Sh.int IntKind.i64) x.fst) false none)]
noncomputable def tx89x90_0_1 (N0 : Nat) (x : Sh.Ts [(Sh.int IntKind.i64).sl]) : List AV := [AV.any, AV.any, AV.any, AV.any, AV.any, AV.any, AV.any, AV.any, AV.any, AV.any, AV.any, AV.any, AV.any, AV.any, AV.any, AV.any, AV.any, AV.any, AV.any, AV.any, AV.any, AV.any, AV.any, AV.any, AV.any]
noncomputable def hx89x90_0_1 (N0 : Nat) (x : Sh.Ts [(Sh.int IntKind.i64).sl]) : Heap := [Ent.live (Blk.mk (Cells.arr (Sh.int IntKind.i64) x.fst) false none)]
noncomputable def law89x90_0 {β : Type} (N0 : Nat) (x : ((List Int) × Unit)) (k0 : Option β) (k1 : Option β) : Nat → Int → Option β
  | 0, _ => none
  | n + 1, i6 => (bif decide (i6 > 0) then (bif decide (0 ≤ i6) && decide (i6 < (↑(List.length x.fst) : Int)) then (Option.bind x.fst[i6.toNat]? fun v7 => (bif decide (0 ≤ IntKind.i64.wrap (i6 - 1)) && decide (IntKind.i64.wrap (i6 - 1) < (↑(List.length x.fst) : Int)) then (Option.bind (x.fst[(IntKind.i64.wrap (i6 - 1)).toNat]?) fun v8 => (Option.bind (fn90 (v7, v8, ())) fun v9 => (bif decide (v9.fst < 0) then k0 else law89x90_0 N0 x k0 k1 n (IntKind.i64.wrap (i6 - 1))))) else none)) else none) else k1)
theorem leq89x90_0 {β : Type} (N0 : Nat) (x : Sh.Ts [(Sh.int IntKind.i64).sl]) (K : Exit → List AV → Heap → Option β) : ∀ (n : Nat) (i6 : Int), ln89x90_0 N0 n (t89x90_0 N0 x i6) (h89x90_0 N0 x i6) K = law89x90_0 N0 x (K (Exit.ret) (tx89x90_0_0 N0 x) (hx89x90_0_0 N0 x)) (K (Exit.exit 0) (tx89x90_0_1 N0 x) (hx89x90_0_1 N0 x)) n i6
  | 0, _ => rfl
  | n + 1, i6 => by
    have h : ln89x90_0 N0 (n + 1) (t89x90_0 N0 x i6) (h89x90_0 N0 x i6) K = (bif decide (i6 > 0) then (bif decide (0 ≤ i6) && decide (i6 < (↑(List.length x.fst) : Int)) then (Option.bind (x.fst[0 + i6.toNat]?) fun v7 => (bif decide (0 ≤ IntKind.i64.wrap (i6 - 1)) && decide (IntKind.i64.wrap (i6 - 1) < (↑(List.length x.fst) : Int)) then (Option.bind (x.fst[0 + (IntKind.i64.wrap (i6 - 1)).toNat]?) fun v8 => (Option.bind (fn90 (v7, v8, ())) fun v9 => (bif decide (v9.fst < 0) then K (Exit.ret) (tx89x90_0_0 N0 x) (hx89x90_0_0 N0 x) else ln89x90_0 N0 n (t89x90_0 N0 x (IntKind.i64.wrap (i6 - 1))) (h89x90_0 N0 x (IntKind.i64.wrap (i6 - 1))) K))) else none)) else none) else K (Exit.exit 0) (tx89x90_0_1 N0 x) (hx89x90_0_1 N0 x)) := by kernel_rfl
    rw [h]
    simp only [decide_self, decide_true, Nat.zero_add, Bool.and_true, Bool.true_and, cond_true, law89x90_0, leq89x90_0 N0 x K n]
theorem rest89x90_0_0 (N0 : Nat) (x : Sh.Ts [(Sh.int IntKind.i64).sl]) : rk89x90_0 N0 (Exit.ret) (tx89x90_0_0 N0 x) (hx89x90_0_0 N0 x) = some ((false, ())) := by kernel_rfl
theorem rest89x90_0_1 (N0 : Nat) (x : Sh.Ts [(Sh.int IntKind.i64).sl]) : rk89x90_0 N0 (Exit.exit 0) (tx89x90_0_1 N0 x) (hx89x90_0_1 N0 x) = some ((true, ())) := by kernel_rfl
noncomputable def law89x90 (N0 : Nat) (x : ((List Int) × Unit)) (xs : (Unit)) : Option ((Bool × Unit)) := (law89x90_0 N0 x (some ((false, ()))) (some ((true, ()))) N0 (IntKind.i64.wrap ((↑(List.length x.fst) : Int) - 1)))
theorem eq89x90 (N0 : Nat) (x : Sh.Ts [(Sh.int IntKind.i64).sl]) (xs : Sh.Ts []) : codeLawC Try.prog env89x90 200 (L89x90 N0) Try.f89 c89x90 [.sl (.int .i64)] 90 [] [.bool] x xs = law89x90 N0 x xs := by
  have h : codeLawC Try.prog env89x90 200 (L89x90 N0) Try.f89 c89x90 [.sl (.int .i64)] 90 [] [.bool] x xs = (ln89x90_0 N0 N0 (t89x90_0 N0 x (IntKind.i64.wrap ((↑(List.length x.fst) : Int) - 1))) (h89x90_0 N0 x (IntKind.i64.wrap ((↑(List.length x.fst) : Int) - 1))) (rk89x90_0 N0)) := by kernel_rfl
  rw [h]
  unfold law89x90
  simp only [decide_self, decide_true, Nat.zero_add, Bool.and_true, Bool.true_and, cond_true, leq89x90_0, rest89x90_0_0, rest89x90_0_1]
noncomputable def fn89x90 (x : ((List Int) × Unit)) (xs : (Unit)) : Option ((Bool × Unit)) := law89x90 (10 ^ 30) x xs
theorem reads89x90 : ReadsC Try.prog 89 [.sl (.int .i64)] 90 [] [.bool] fn89x90 := (ReadsC.of_code mixed (fn := Try.f89) (c := c89x90) Try.func89 (by kernel_rfl) (by kernel_rfl) env89x90 200 (L89x90_fit _) (by kernel_rfl)).to (eq89x90 _)
noncomputable def s89x90 : Summ Try.prog := reads89x90.summ (by kernel_rfl)
noncomputable def s89 : Summ Try.prog := s89x90
/- chicane/pane.rises -/
noncomputable def c80 : Code := (Try.f80.body.getD .skip)
noncomputable def env80 : Env Try.prog := [s89, s90]
noncomputable def L80 : Loops Try.prog := []
theorem L80_fit : (L80).fit c80 := Loops.fit_nil
noncomputable def law80 (x : ((List Int) × Unit)) : Option ((Bool × Unit)) := (Option.bind (fn89x90 x ()) fun v0 => some ((v0.fst, ())))
theorem eq80 (x : Sh.Ts [(Sh.int IntKind.i64).sl]) : codeLaw Try.prog env80 200 (L80) Try.f80 c80 [.sl (.int .i64)] [.bool] x = law80 x := by
  have h : codeLaw Try.prog env80 200 (L80) Try.f80 c80 [.sl (.int .i64)] [.bool] x = (bif decide (List.length x.fst = List.length x.fst) && true && true then (Option.bind (fn89x90 x ()) fun v0 => some ((v0.fst, ()))) else none) := by kernel_rfl
  rw [h]
  unfold law80
  simp only [decide_self, decide_true, Nat.zero_add, Bool.and_true, Bool.true_and, cond_true]
noncomputable def fn80 (x : ((List Int) × Unit)) : Option ((Bool × Unit)) := law80 x
theorem reads80 : Reads Try.prog 80 [.sl (.int .i64)] [.bool] fn80 := (Reads.of_code mixed (fn := Try.f80) (c := c80) Try.func80 (by kernel_rfl) (by kernel_rfl) env80 200 (L80_fit) (by kernel_rfl)).to (eq80)
noncomputable def s80 : Summ Try.prog := reads80.summ
/- chicane/pane.Right -/
noncomputable def c68 : Code := (Try.f68.body.getD .skip)
noncomputable def env68 : Env Try.prog := [s75, s78, s79, s80]
noncomputable def L68 : Loops Try.prog := []
theorem L68_fit : (L68).fit c68 := Loops.fit_nil
noncomputable def law68 (x : (PaneT × Unit)) : Option ((Int × Unit)) := (Option.bind (fn78 x) fun v0 => (bif !v0.fst then some ((42, ())) else (Option.bind (fn75 (x.fst.fst, ())) fun v1 => (bif v1.fst then some ((40, ())) else (Option.bind (fn75 (x.fst.snd.fst, ())) fun v2 => (bif v2.fst then some ((40, ())) else (Option.bind (fn79x75 x.fst.snd.snd ()) fun v3 => (bif v3.fst then some ((40, ())) else (Option.bind (fn80 (x.fst.fst, ())) fun v4 => (bif !v4.fst then some ((41, ())) else (Option.bind (fn80 (x.fst.snd.fst, ())) fun v5 => (bif !v5.fst then some ((41, ())) else some ((0, ()))))))))))))))
theorem eq68 (x : Sh.Ts [PaneSh]) : codeLaw Try.prog env68 200 (L68) Try.f68 c68 [PaneSh] [.int .i64] x = law68 x := by
  have h : codeLaw Try.prog env68 200 (L68) Try.f68 c68 [PaneSh] [.int .i64] x = (bif decide (List.length x.fst.fst = List.length x.fst.fst) && (decide (List.length x.fst.snd.fst = List.length x.fst.snd.fst) && (decide (List.length x.fst.snd.snd.fst = List.length x.fst.snd.snd.fst) && true)) && true then (Option.bind (fn78 x) fun v0 => (bif !v0.fst then some ((42, ())) else (bif decide (List.length x.fst.fst = List.length x.fst.fst) && true then (Option.bind (fn75 (x.fst.fst, ())) fun v1 => (bif v1.fst then some ((40, ())) else (bif decide (List.length x.fst.snd.fst = List.length x.fst.snd.fst) && true then (Option.bind (fn75 (x.fst.snd.fst, ())) fun v2 => (bif v2.fst then some ((40, ())) else (bif decide (List.length x.fst.snd.snd.fst = List.length x.fst.snd.snd.fst) && true && true then (Option.bind (fn79x75 x.fst.snd.snd ()) fun v3 => (bif v3.fst then some ((40, ())) else (bif decide (List.length x.fst.fst = List.length x.fst.fst) && true then (Option.bind (fn80 (x.fst.fst, ())) fun v4 => (bif !v4.fst then some ((41, ())) else (bif decide (List.length x.fst.snd.fst = List.length x.fst.snd.fst) && true then (Option.bind (fn80 (x.fst.snd.fst, ())) fun v5 => (bif !v5.fst then some ((41, ())) else some ((0, ())))) else none))) else none))) else none))) else none))) else none))) else none) := by kernel_rfl
  rw [h]
  unfold law68
  simp only [decide_self, decide_true, Nat.zero_add, Bool.and_true, Bool.true_and, cond_true]
noncomputable def fn68 (x : (PaneT × Unit)) : Option ((Int × Unit)) := law68 x
theorem reads68 : Reads Try.prog 68 [PaneSh] [.int .i64] fn68 := (Reads.of_code mixed (fn := Try.f68) (c := c68) Try.func68 (by kernel_rfl) (by kernel_rfl) env68 200 (L68_fit) (by kernel_rfl)).to (eq68)
noncomputable def s68 : Summ Try.prog := reads68.summ
/- chicane/car.body -/
noncomputable def c47 : Code := (Try.f47.body.getD .skip)
noncomputable def env47 : Env Try.prog := [s49]
noncomputable def L47 : Loops Try.prog := []
theorem L47_fit : (L47).fit c47 := Loops.fit_nil
noncomputable def law47 (x : (CarT × Unit)) : Option ((Int × Unit)) := (Option.bind (fn49 ([(x.fst.fst, 274877906944, 35184372088832, ()), (x.fst.snd.fst.fst, 68719476736, 281474976710656, ()), (x.fst.snd.fst.snd.fst, 68719476736, 281474976710656, ()), (x.fst.snd.fst.snd.snd.fst, 68719476736, 281474976710656, ()), (x.fst.snd.snd.snd.snd.snd.snd.snd.snd.snd.snd.snd.snd.snd.snd.snd.snd.snd.snd.snd.snd.snd.snd.snd.snd.snd.fst, 2147483648, 17179869184, ()), (x.fst.snd.snd.snd.snd.snd.snd.snd.snd.snd.snd.snd.snd.snd.snd.snd.snd.snd.snd.snd.snd.snd.snd.snd.snd.snd.snd.fst, 0, 4294967296, ()), (x.fst.snd.snd.snd.snd.snd.snd.snd.snd.snd.snd.snd.snd.snd.snd.snd.snd.snd.snd.snd.snd.snd.snd.snd.snd.snd.snd.snd.fst, 0, 4294967296, ())], ())) fun v0 => some ((v0.fst, ())))
theorem eq47 (x : Sh.Ts [CarSh]) : codeLaw Try.prog env47 200 (L47) Try.f47 c47 [CarSh] [.int .i64] x = law47 x := by kernel_rfl
noncomputable def fn47 (x : (CarT × Unit)) : Option ((Int × Unit)) := law47 x
theorem reads47 : Reads Try.prog 47 [CarSh] [.int .i64] fn47 := (Reads.of_code mixed (fn := Try.f47) (c := c47) Try.func47 (by kernel_rfl) (by kernel_rfl) env47 200 (L47_fit) (by kernel_rfl)).to (eq47)
noncomputable def s47 : Summ Try.prog := reads47.summ
/- chicane/car.wheel -/
noncomputable def c48 : Code := (Try.f48.body.getD .skip)
noncomputable def env48 : Env Try.prog := [s49]
noncomputable def L48 : Loops Try.prog := []
theorem L48_fit : (L48).fit c48 := Loops.fit_nil
noncomputable def law48 (x : (WheelT × Unit)) : Option ((Int × Unit)) := (Option.bind (fn49 ([(x.fst.fst.fst, -17179869184, 17179869184, ()), (x.fst.fst.snd.fst, -17179869184, 17179869184, ()), (x.fst.fst.snd.snd.fst, -8589934592, 8589934592, ()), (x.fst.snd.fst, 536870912, 4294967296, ()), (x.fst.snd.snd.fst, 536870912, 274877906944, ()), (x.fst.snd.snd.snd.fst, 4398046511104, 1125899906842624, ()), (x.fst.snd.snd.snd.snd.fst, 67108864, 2147483648, ()), (x.fst.snd.snd.snd.snd.snd.fst, 0, 4503599627370496, ())], ())) fun v0 => some ((v0.fst, ())))
theorem eq48 (x : Sh.Ts [WheelSh]) : codeLaw Try.prog env48 200 (L48) Try.f48 c48 [WheelSh] [.int .i64] x = law48 x := by kernel_rfl
noncomputable def fn48 (x : (WheelT × Unit)) : Option ((Int × Unit)) := law48 x
theorem reads48 : Reads Try.prog 48 [WheelSh] [.int .i64] fn48 := (Reads.of_code mixed (fn := Try.f48) (c := c48) Try.func48 (by kernel_rfl) (by kernel_rfl) env48 200 (L48_fit) (by kernel_rfl)).to (eq48)
noncomputable def s48 : Summ Try.prog := reads48.summ
noncomputable def s50 : Summ Try.prog := (Summ.choose (lastFn 51) s50x51 s50x53 rfl)
/- slices.Grow[[]chicane/api.Fx,chicane/api.Fx] -/
noncomputable def c91 : Code := (Try.f91.body.getD .skip)
noncomputable def env91 : Env Try.prog := []
noncomputable def s91 : Summ Try.prog := inlSumm allRw mixed 91 Try.f91 c91 Try.func91 (by kernel_rfl) (by kernel_rfl) env91 200 [] Loops.fit_nil
/- slices.Concat[[]chicane/api.Fx,chicane/api.Fx] -/
noncomputable def c81 : Code := (Try.f81.body.getD .skip)
noncomputable def env81 : Env Try.prog := [s91]
noncomputable def b81o1 : Code := ((kid ((subAt c81 [0, 1, 0, 1, 1, 1, 1]).getD .skip) 0).getD .skip)
noncomputable def kx81o1 : Exit → List Nat | .ret => [2] | .exit 2 => [6] | _ => []
noncomputable def b81o0 : Code := ((kid ((subAt c81 [0, 1, 0, 1, 1]).getD .skip) 0).getD .skip)
noncomputable def kx81o0 : Exit → List Nat | .ret => [2] | .exit 0 => [0, 3] | _ => []
noncomputable def Li81o1 (N0 N1 : Nat) : Loops Try.prog := []
noncomputable def ls81o1 (N0 N1 : Nat) : LSumm Try.prog := loopSumm mixed env81 200 (Li81o1 N0 N1) b81o1 (Loops.fit_nil) [6, 25, 26, 27] kx81o1 (Nat.succ N1)
noncomputable def ln81o1 {β : Type} (N0 N1 : Nat) (n : Nat) (t : List AV) (h : Heap) (K : Exit → List AV → Heap → Option β) : Option β := loopN Try.prog env81 (Sh.nes [.rows (.int .i64)]) 200 (Li81o1 N0 N1) b81o1 [6, 25, 26, 27] kx81o1 n t h K
noncomputable def Li81o0 (N0 N1 : Nat) : Loops Try.prog := []
noncomputable def ls81o0 (N0 N1 : Nat) : LSumm Try.prog := loopSumm mixed env81 200 (Li81o0 N0 N1) b81o0 (Loops.fit_nil) [0, 3, 9, 10, 11] kx81o0 (Nat.succ N0)
noncomputable def ln81o0 {β : Type} (N0 N1 : Nat) (n : Nat) (t : List AV) (h : Heap) (K : Exit → List AV → Heap → Option β) : Option β := loopN Try.prog env81 (Sh.nes [.rows (.int .i64)]) 200 (Li81o0 N0 N1) b81o0 [0, 3, 9, 10, 11] kx81o0 n t h K
noncomputable def L81 (N0 N1 : Nat) : Loops Try.prog := [([0, 1, 0, 1, 1], ls81o0 N0 N1), ([0, 1, 0, 1, 1, 1, 1], ls81o1 N0 N1)]
theorem L81_fit (N0 N1 : Nat) : (L81 N0 N1).fit c81 := Loops.fit_cons (by kernel_rfl) (Loops.fit_cons (by kernel_rfl) (Loops.fit_nil))
noncomputable def K81 : Exit → List AV → Heap → Option (List (Sh.T (.int .i64))) := fun e t h => outF (P := Try.prog) Try.f81 (Sh.nes [.rows (.int .i64)]) (.int .i64) e t h
noncomputable def rk81o0 (N0 N1 : Nat) : Exit → List AV → Heap → Option (List (Sh.T (.int .i64))) := (blkK 0 (seqK Try.prog env81 (Sh.nes [.rows (.int .i64)]) 197 (L81 N0 N1) [1, 1, 1] ((subAt c81 [1, 1, 1]).getD .skip) K81))
noncomputable def rk81o1 (N0 N1 : Nat) : Exit → List AV → Heap → Option (List (Sh.T (.int .i64))) := (blkK 2 (seqK Try.prog env81 (Sh.nes [.rows (.int .i64)]) 195 (L81 N0 N1) [1, 1, 1, 1, 1] ((subAt c81 [1, 1, 1, 1, 1]).getD .skip) K81))
noncomputable def t81o0 (N0 : Nat) (N1 : Nat) (x : Sh.Ts [(Sh.int IntKind.i64).rows]) (i8 : Int) (i9 : Int) : List AV := [AV.slc 0 0 (List.length x.fst) Cap.low, AV.any, AV.any, AV.val (Value.int IntKind.i64 i8), AV.any, AV.any, AV.any, AV.any, AV.any, AV.slc 0 0 (List.length x.fst) Cap.low, AV.val (Value.int IntKind.i64 (↑(List.length x.fst) : Int)), AV.val (Value.int IntKind.i64 i9), AV.any, AV.any, AV.any, AV.any, AV.any, AV.any, AV.any, AV.any, AV.any, AV.any, AV.any, AV.any, AV.any, AV.any, AV.any, AV.any, AV.any, AV.any, AV.any, AV.any, AV.any, AV.any, AV.any, AV.any]
noncomputable def h81o0 (N0 : Nat) (N1 : Nat) (x : Sh.Ts [(Sh.int IntKind.i64).rows]) (i8 : Int) (i9 : Int) : Heap := [Ent.live (Blk.mk (Cells.arrs (Sh.int IntKind.i64) x.fst) false none)]
noncomputable def tx81o0o0 (N0 : Nat) (N1 : Nat) (x : Sh.Ts [(Sh.int IntKind.i64).rows]) (w11 : Int) : List AV := [AV.slc 0 0 (List.length x.fst) Cap.low, AV.any, AV.any, AV.val (Value.int IntKind.i64 w11), AV.any, AV.any, AV.any, AV.any, AV.any, AV.any, AV.any, AV.any, AV.any, AV.any, AV.any, AV.any, AV.any, AV.any, AV.any, AV.any, AV.any, AV.any, AV.any, AV.any, AV.any, AV.any, AV.any, AV.any, AV.any, AV.any, AV.any, AV.any, AV.any, AV.any, AV.any, AV.any]
noncomputable def hx81o0o0 (N0 : Nat) (N1 : Nat) (x : Sh.Ts [(Sh.int IntKind.i64).rows]) (w11 : Int) : Heap := [Ent.live (Blk.mk (Cells.arrs (Sh.int IntKind.i64) x.fst) false none)]
noncomputable def law81o0 {β : Type} (N0 : Nat) (N1 : Nat) (x : ((List (List Int)) × Unit)) (k0 : Int → Option β) : Nat → Int → Int → Option β
  | 0, _, _ => none
  | n + 1, i8, i9 => (bif decide (i9 < (↑(List.length x.fst) : Int)) then (bif decide (0 ≤ i9) && decide (i9 < (↑(List.length x.fst) : Int)) then (Option.bind x.fst[i9.toNat]? fun v10 => (bif decide (IntKind.i64.wrap (i8 + (↑v10.length : Int)) < 0) then none else law81o0 N0 N1 x k0 n (IntKind.i64.wrap (i8 + (↑v10.length : Int))) (IntKind.i64.wrap (i9 + 1)))) else none) else k0 i8)
theorem leq81o0 {β : Type} (N0 : Nat) (N1 : Nat) (x : Sh.Ts [(Sh.int IntKind.i64).rows]) (K : Exit → List AV → Heap → Option β) : ∀ (n : Nat) (i8 : Int) (i9 : Int), ln81o0 N0 N1 n (t81o0 N0 N1 x i8 i9) (h81o0 N0 N1 x i8 i9) K = law81o0 N0 N1 x (fun w11 => K (Exit.exit 0) (tx81o0o0 N0 N1 x w11) (hx81o0o0 N0 N1 x w11)) n i8 i9
  | 0, _, _ => rfl
  | n + 1, i8, i9 => by
    have h : ln81o0 N0 N1 (n + 1) (t81o0 N0 N1 x i8 i9) (h81o0 N0 N1 x i8 i9) K = (bif decide (i9 < (↑(List.length x.fst) : Int)) then (bif decide (0 ≤ i9) && decide (i9 < (↑(List.length x.fst) : Int)) then (Option.bind (x.fst[0 + i9.toNat]?) fun v10 => (bif decide (IntKind.i64.wrap (i8 + (↑v10.length : Int)) < 0) then none else ln81o0 N0 N1 n (t81o0 N0 N1 x (IntKind.i64.wrap (i8 + (↑v10.length : Int))) (IntKind.i64.wrap (i9 + 1))) (h81o0 N0 N1 x (IntKind.i64.wrap (i8 + (↑v10.length : Int))) (IntKind.i64.wrap (i9 + 1))) K)) else none) else K (Exit.exit 0) (tx81o0o0 N0 N1 x i8) (hx81o0o0 N0 N1 x i8)) := by kernel_rfl
    rw [h]
    simp only [decide_self, decide_true, Nat.zero_add, Bool.and_true, Bool.true_and, cond_true, law81o0, leq81o0 N0 N1 x K n]
noncomputable def t81o1o1 (N0 : Nat) (N1 : Nat) (x : Sh.Ts [(Sh.int IntKind.i64).rows]) (i21 : Nat) (i22 : Int) (i23 : List (Sh.int IntKind.i64).T) : List AV := [AV.any, AV.any, AV.any, AV.any, AV.any, AV.any, AV.slc 1 0 i21 Cap.unk, AV.any, AV.any, AV.any, AV.any, AV.any, AV.any, AV.any, AV.any, AV.any, AV.any, AV.any, AV.any, AV.any, AV.any, AV.any, AV.any, AV.any, AV.any, AV.slc 0 0 (List.length x.fst) Cap.low, AV.val (Value.int IntKind.i64 (↑(List.length x.fst) : Int)), AV.val (Value.int IntKind.i64 i22), AV.any, AV.any, AV.any, AV.any, AV.any, AV.any, AV.any, AV.any]
noncomputable def h81o1o1 (N0 : Nat) (N1 : Nat) (x : Sh.Ts [(Sh.int IntKind.i64).rows]) (i21 : Nat) (i22 : Int) (i23 : List (Sh.int IntKind.i64).T) : Heap := [Ent.live (Blk.mk (Cells.arrs (Sh.int IntKind.i64) x.fst) false none), Ent.live (Blk.mk (Cells.arr (Sh.int IntKind.i64) i23) true (some 1))]
noncomputable def tx81o1o1o0 (N0 : Nat) (N1 : Nat) (x : Sh.Ts [(Sh.int IntKind.i64).rows]) (w25 : Nat) (w26 : List (Sh.int IntKind.i64).T) : List AV := [AV.any, AV.any, AV.any, AV.any, AV.any, AV.any, AV.slc 1 0 w25 Cap.unk, AV.any, AV.any, AV.any, AV.any, AV.any, AV.any, AV.any, AV.any, AV.any, AV.any, AV.any, AV.any, AV.any, AV.any, AV.any, AV.any, AV.any, AV.any, AV.any, AV.any, AV.any, AV.any, AV.any, AV.any, AV.any, AV.any, AV.any, AV.any, AV.any]
noncomputable def hx81o1o1o0 (N0 : Nat) (N1 : Nat) (x : Sh.Ts [(Sh.int IntKind.i64).rows]) (w25 : Nat) (w26 : List (Sh.int IntKind.i64).T) : Heap := [Ent.live (Blk.mk (Cells.arrs (Sh.int IntKind.i64) x.fst) false none), Ent.live (Blk.mk (Cells.arr (Sh.int IntKind.i64) w26) true (some 1))]
noncomputable def law81o1o1 {β : Type} (N0 : Nat) (N1 : Nat) (x : ((List (List Int)) × Unit)) (k0 : Nat → List Int → Option β) : Nat → Nat → Int → List Int → Option β
  | 0, _, _, _ => none
  | n + 1, i21, i22, i23 => (bif decide (i22 < (↑(List.length x.fst) : Int)) then (bif decide (0 ≤ i22) && decide (i22 < (↑(List.length x.fst) : Int)) then (Option.bind x.fst[i22.toNat]? fun v24 => (bif decide (i21 = i23.length) && (decide ((i21 + v24.length) * Try.prog.types[22].bytes ≤ 140737488355328) && decide (i21 + v24.length ≤ 9223372036854775807)) then law81o1o1 N0 N1 x k0 n (i21 + v24.length) (IntKind.i64.wrap (i22 + 1)) (i23.append v24) else none)) else none) else k0 i21 i23)
theorem leq81o1o1 {β : Type} (N0 : Nat) (N1 : Nat) (x : Sh.Ts [(Sh.int IntKind.i64).rows]) (K : Exit → List AV → Heap → Option β) : ∀ (n : Nat) (i21 : Nat) (i22 : Int) (i23 : List (Sh.int IntKind.i64).T), ln81o1 N0 N1 n (t81o1o1 N0 N1 x i21 i22 i23) (h81o1o1 N0 N1 x i21 i22 i23) K = law81o1o1 N0 N1 x (fun w25 w26 => K (Exit.exit 2) (tx81o1o1o0 N0 N1 x w25 w26) (hx81o1o1o0 N0 N1 x w25 w26)) n i21 i22 i23
  | 0, _, _, _ => rfl
  | n + 1, i21, i22, i23 => by
    have h : ln81o1 N0 N1 (n + 1) (t81o1o1 N0 N1 x i21 i22 i23) (h81o1o1 N0 N1 x i21 i22 i23) K = (bif decide (i22 < (↑(List.length x.fst) : Int)) then (bif decide (0 ≤ i22) && decide (i22 < (↑(List.length x.fst) : Int)) then (Option.bind (x.fst[0 + i22.toNat]?) fun v24 => (bif decide (i21 = i23.length) && (decide (v24.length = v24.length) && (decide ((i21 + v24.length) * Try.prog.types[22].bytes ≤ 140737488355328) && decide (i21 + v24.length ≤ 9223372036854775807))) then ln81o1 N0 N1 n (t81o1o1 N0 N1 x (i21 + v24.length) (IntKind.i64.wrap (i22 + 1)) (i23.append v24)) (h81o1o1 N0 N1 x (i21 + v24.length) (IntKind.i64.wrap (i22 + 1)) (i23.append v24)) K else none)) else none) else K (Exit.exit 2) (tx81o1o1o0 N0 N1 x i21 i23) (hx81o1o1o0 N0 N1 x i21 i23)) := by kernel_rfl
    rw [h]
    simp only [decide_self, decide_true, Nat.zero_add, Bool.and_true, Bool.true_and, cond_true, law81o1o1, leq81o1o1 N0 N1 x K n, leq81o0]
noncomputable def t81o1o2 (N0 : Nat) (N1 : Nat) (x : Sh.Ts [(Sh.int IntKind.i64).rows]) (i37 : Nat) (i38 : Int) (i39 : List (Sh.int IntKind.i64).T) : List AV := [AV.any, AV.any, AV.any, AV.any, AV.any, AV.any, AV.slc 1 0 i37 Cap.unk, AV.any, AV.any, AV.any, AV.any, AV.any, AV.any, AV.any, AV.any, AV.any, AV.any, AV.any, AV.any, AV.any, AV.any, AV.any, AV.any, AV.any, AV.any, AV.slc 0 0 (List.length x.fst) Cap.low, AV.val (Value.int IntKind.i64 (↑(List.length x.fst) : Int)), AV.val (Value.int IntKind.i64 i38), AV.any, AV.any, AV.any, AV.any, AV.any, AV.any, AV.any, AV.any]
noncomputable def h81o1o2 (N0 : Nat) (N1 : Nat) (x : Sh.Ts [(Sh.int IntKind.i64).rows]) (i37 : Nat) (i38 : Int) (i39 : List (Sh.int IntKind.i64).T) : Heap := [Ent.live (Blk.mk (Cells.arrs (Sh.int IntKind.i64) x.fst) false none), Ent.live (Blk.mk (Cells.arr (Sh.int IntKind.i64) i39) true (some 1))]
noncomputable def tx81o1o2o0 (N0 : Nat) (N1 : Nat) (x : Sh.Ts [(Sh.int IntKind.i64).rows]) (w41 : Nat) (w42 : List (Sh.int IntKind.i64).T) : List AV := [AV.any, AV.any, AV.any, AV.any, AV.any, AV.any, AV.slc 1 0 w41 Cap.unk, AV.any, AV.any, AV.any, AV.any, AV.any, AV.any, AV.any, AV.any, AV.any, AV.any, AV.any, AV.any, AV.any, AV.any, AV.any, AV.any, AV.any, AV.any, AV.any, AV.any, AV.any, AV.any, AV.any, AV.any, AV.any, AV.any, AV.any, AV.any, AV.any]
noncomputable def hx81o1o2o0 (N0 : Nat) (N1 : Nat) (x : Sh.Ts [(Sh.int IntKind.i64).rows]) (w41 : Nat) (w42 : List (Sh.int IntKind.i64).T) : Heap := [Ent.live (Blk.mk (Cells.arrs (Sh.int IntKind.i64) x.fst) false none), Ent.live (Blk.mk (Cells.arr (Sh.int IntKind.i64) w42) true (some 1))]
noncomputable def law81o1o2 {β : Type} (N0 : Nat) (N1 : Nat) (x : ((List (List Int)) × Unit)) (k0 : Nat → List Int → Option β) : Nat → Nat → Int → List Int → Option β
  | 0, _, _, _ => none
  | n + 1, i37, i38, i39 => (bif decide (i38 < (↑(List.length x.fst) : Int)) then (bif decide (0 ≤ i38) && decide (i38 < (↑(List.length x.fst) : Int)) then (Option.bind x.fst[i38.toNat]? fun v40 => (bif decide (i37 = i39.length) && (decide ((i37 + v40.length) * Try.prog.types[22].bytes ≤ 140737488355328) && decide (i37 + v40.length ≤ 9223372036854775807)) then law81o1o2 N0 N1 x k0 n (i37 + v40.length) (IntKind.i64.wrap (i38 + 1)) (i39.append v40) else none)) else none) else k0 i37 i39)
theorem leq81o1o2 {β : Type} (N0 : Nat) (N1 : Nat) (x : Sh.Ts [(Sh.int IntKind.i64).rows]) (K : Exit → List AV → Heap → Option β) : ∀ (n : Nat) (i37 : Nat) (i38 : Int) (i39 : List (Sh.int IntKind.i64).T), ln81o1 N0 N1 n (t81o1o2 N0 N1 x i37 i38 i39) (h81o1o2 N0 N1 x i37 i38 i39) K = law81o1o2 N0 N1 x (fun w41 w42 => K (Exit.exit 2) (tx81o1o2o0 N0 N1 x w41 w42) (hx81o1o2o0 N0 N1 x w41 w42)) n i37 i38 i39
  | 0, _, _, _ => rfl
  | n + 1, i37, i38, i39 => by
    have h : ln81o1 N0 N1 (n + 1) (t81o1o2 N0 N1 x i37 i38 i39) (h81o1o2 N0 N1 x i37 i38 i39) K = (bif decide (i38 < (↑(List.length x.fst) : Int)) then (bif decide (0 ≤ i38) && decide (i38 < (↑(List.length x.fst) : Int)) then (Option.bind (x.fst[0 + i38.toNat]?) fun v40 => (bif decide (i37 = i39.length) && (decide (v40.length = v40.length) && (decide ((i37 + v40.length) * Try.prog.types[22].bytes ≤ 140737488355328) && decide (i37 + v40.length ≤ 9223372036854775807))) then ln81o1 N0 N1 n (t81o1o2 N0 N1 x (i37 + v40.length) (IntKind.i64.wrap (i38 + 1)) (i39.append v40)) (h81o1o2 N0 N1 x (i37 + v40.length) (IntKind.i64.wrap (i38 + 1)) (i39.append v40)) K else none)) else none) else K (Exit.exit 2) (tx81o1o2o0 N0 N1 x i37 i39) (hx81o1o2o0 N0 N1 x i37 i39)) := by kernel_rfl
    rw [h]
    simp only [decide_self, decide_true, Nat.zero_add, Bool.and_true, Bool.true_and, cond_true, law81o1o2, leq81o1o2 N0 N1 x K n, leq81o0, leq81o1o1]
noncomputable def t81o1o3 (N0 : Nat) (N1 : Nat) (x : Sh.Ts [(Sh.int IntKind.i64).rows]) (i53 : Nat) (i54 : Int) (i55 : List (Sh.int IntKind.i64).T) : List AV := [AV.any, AV.any, AV.any, AV.any, AV.any, AV.any, AV.slc 1 0 i53 Cap.unk, AV.any, AV.any, AV.any, AV.any, AV.any, AV.any, AV.any, AV.any, AV.any, AV.any, AV.any, AV.any, AV.any, AV.any, AV.any, AV.any, AV.any, AV.any, AV.slc 0 0 (List.length x.fst) Cap.low, AV.val (Value.int IntKind.i64 (↑(List.length x.fst) : Int)), AV.val (Value.int IntKind.i64 i54), AV.any, AV.any, AV.any, AV.any, AV.any, AV.any, AV.any, AV.any]
noncomputable def h81o1o3 (N0 : Nat) (N1 : Nat) (x : Sh.Ts [(Sh.int IntKind.i64).rows]) (i53 : Nat) (i54 : Int) (i55 : List (Sh.int IntKind.i64).T) : Heap := [Ent.live (Blk.mk (Cells.arrs (Sh.int IntKind.i64) x.fst) false none), Ent.live (Blk.mk (Cells.arr (Sh.int IntKind.i64) i55) true (some 1))]
noncomputable def tx81o1o3o0 (N0 : Nat) (N1 : Nat) (x : Sh.Ts [(Sh.int IntKind.i64).rows]) (w57 : Nat) (w58 : List (Sh.int IntKind.i64).T) : List AV := [AV.any, AV.any, AV.any, AV.any, AV.any, AV.any, AV.slc 1 0 w57 Cap.unk, AV.any, AV.any, AV.any, AV.any, AV.any, AV.any, AV.any, AV.any, AV.any, AV.any, AV.any, AV.any, AV.any, AV.any, AV.any, AV.any, AV.any, AV.any, AV.any, AV.any, AV.any, AV.any, AV.any, AV.any, AV.any, AV.any, AV.any, AV.any, AV.any]
noncomputable def hx81o1o3o0 (N0 : Nat) (N1 : Nat) (x : Sh.Ts [(Sh.int IntKind.i64).rows]) (w57 : Nat) (w58 : List (Sh.int IntKind.i64).T) : Heap := [Ent.live (Blk.mk (Cells.arrs (Sh.int IntKind.i64) x.fst) false none), Ent.live (Blk.mk (Cells.arr (Sh.int IntKind.i64) w58) true (some 1))]
noncomputable def law81o1o3 {β : Type} (N0 : Nat) (N1 : Nat) (x : ((List (List Int)) × Unit)) (k0 : Nat → List Int → Option β) : Nat → Nat → Int → List Int → Option β
  | 0, _, _, _ => none
  | n + 1, i53, i54, i55 => (bif decide (i54 < (↑(List.length x.fst) : Int)) then (bif decide (0 ≤ i54) && decide (i54 < (↑(List.length x.fst) : Int)) then (Option.bind x.fst[i54.toNat]? fun v56 => (bif decide (i53 = i55.length) && (decide ((i53 + v56.length) * Try.prog.types[22].bytes ≤ 140737488355328) && decide (i53 + v56.length ≤ 9223372036854775807)) then law81o1o3 N0 N1 x k0 n (i53 + v56.length) (IntKind.i64.wrap (i54 + 1)) (i55.append v56) else none)) else none) else k0 i53 i55)
theorem leq81o1o3 {β : Type} (N0 : Nat) (N1 : Nat) (x : Sh.Ts [(Sh.int IntKind.i64).rows]) (K : Exit → List AV → Heap → Option β) : ∀ (n : Nat) (i53 : Nat) (i54 : Int) (i55 : List (Sh.int IntKind.i64).T), ln81o1 N0 N1 n (t81o1o3 N0 N1 x i53 i54 i55) (h81o1o3 N0 N1 x i53 i54 i55) K = law81o1o3 N0 N1 x (fun w57 w58 => K (Exit.exit 2) (tx81o1o3o0 N0 N1 x w57 w58) (hx81o1o3o0 N0 N1 x w57 w58)) n i53 i54 i55
  | 0, _, _, _ => rfl
  | n + 1, i53, i54, i55 => by
    have h : ln81o1 N0 N1 (n + 1) (t81o1o3 N0 N1 x i53 i54 i55) (h81o1o3 N0 N1 x i53 i54 i55) K = (bif decide (i54 < (↑(List.length x.fst) : Int)) then (bif decide (0 ≤ i54) && decide (i54 < (↑(List.length x.fst) : Int)) then (Option.bind (x.fst[0 + i54.toNat]?) fun v56 => (bif decide (i53 = i55.length) && (decide (v56.length = v56.length) && (decide ((i53 + v56.length) * Try.prog.types[22].bytes ≤ 140737488355328) && decide (i53 + v56.length ≤ 9223372036854775807))) then ln81o1 N0 N1 n (t81o1o3 N0 N1 x (i53 + v56.length) (IntKind.i64.wrap (i54 + 1)) (i55.append v56)) (h81o1o3 N0 N1 x (i53 + v56.length) (IntKind.i64.wrap (i54 + 1)) (i55.append v56)) K else none)) else none) else K (Exit.exit 2) (tx81o1o3o0 N0 N1 x i53 i55) (hx81o1o3o0 N0 N1 x i53 i55)) := by kernel_rfl
    rw [h]
    simp only [decide_self, decide_true, Nat.zero_add, Bool.and_true, Bool.true_and, cond_true, law81o1o3, leq81o1o3 N0 N1 x K n, leq81o0, leq81o1o1, leq81o1o2]
theorem rest81o1o1o0 (N0 : Nat) (N1 : Nat) (x : Sh.Ts [(Sh.int IntKind.i64).rows]) (w27 : Nat) (w28 : List (Sh.int IntKind.i64).T) : rk81o1 N0 N1 (Exit.exit 2) (tx81o1o1o0 N0 N1 x w27 w28) (hx81o1o1o0 N0 N1 x w27 w28) = (bif decide (w27 = w28.length) then some w28 else none) := by kernel_rfl
theorem rest81o1o2o0 (N0 : Nat) (N1 : Nat) (x : Sh.Ts [(Sh.int IntKind.i64).rows]) (w43 : Nat) (w44 : List (Sh.int IntKind.i64).T) : rk81o1 N0 N1 (Exit.exit 2) (tx81o1o2o0 N0 N1 x w43 w44) (hx81o1o2o0 N0 N1 x w43 w44) = (bif decide (w43 = w44.length) then some w44 else none) := by kernel_rfl
theorem rest81o0o0 (N0 : Nat) (N1 : Nat) (x : Sh.Ts [(Sh.int IntKind.i64).rows]) (w12 : Int) : rk81o0 N0 N1 (Exit.exit 0) (tx81o0o0 N0 N1 x w12) (hx81o0o0 N0 N1 x w12) = (bif decide (w12 < 0) then none else (bif decide (IntKind.i64.wrap (w12 - IntKind.i64.wrap ((↑0 : Int) - (↑0 : Int))) > 0) then (bif decide (0 < IntKind.i64.wrap (w12 - IntKind.i64.wrap ((↑0 : Int) - (↑0 : Int)))) && (decide ((IntKind.i64.wrap (w12 - IntKind.i64.wrap ((↑0 : Int) - (↑0 : Int)))).toNat * Try.prog.types[22].bytes ≤ 140737488355328) && decide ((IntKind.i64.wrap (w12 - IntKind.i64.wrap ((↑0 : Int) - (↑0 : Int)))).toNat ≤ 9223372036854775807)) then (bif decide (0 < (↑(List.length x.fst) : Int)) then (bif decide (0 ≤ 0) && decide (0 < (↑(List.length x.fst) : Int)) then (Option.bind (x.fst[Int.toNat 0]?) fun v13 => (bif decide (((↑0 : Int).toNat + v13.length) * Try.prog.types[22].bytes ≤ 140737488355328) && decide ((↑0 : Int).toNat + v13.length ≤ 9223372036854775807) then (law81o1o1 N0 N1 x (fun w27 w28 => (bif decide (w27 = w28.length) then some w28 else none)) N1 ((↑0 : Int).toNat + v13.length) (IntKind.i64.wrap (0 + 1)) ([].append v13)) else none)) else none) else none) else none) else (bif decide (0 < (↑(List.length x.fst) : Int)) then (bif decide (0 ≤ 0) && decide (0 < (↑(List.length x.fst) : Int)) then (Option.bind (x.fst[Int.toNat 0]?) fun v29 => (bif (decide (0 = 0) || decide (0 < v29.length)) && (decide ((0 + v29.length) * Try.prog.types[22].bytes ≤ 140737488355328) && decide (0 + v29.length ≤ 9223372036854775807)) then (law81o1o2 N0 N1 x (fun w43 w44 => (bif decide (w43 = w44.length) then some w44 else none)) N1 (0 + v29.length) (IntKind.i64.wrap (0 + 1)) ([].append v29)) else none)) else none) else some []))) := by
  have h : rk81o0 N0 N1 (Exit.exit 0) (tx81o0o0 N0 N1 x w12) (hx81o0o0 N0 N1 x w12) = (bif decide (w12 < 0) then none else (bif decide (IntKind.i64.wrap (w12 - IntKind.i64.wrap ((↑0 : Int) - (↑0 : Int))) > 0) then (bif decide (0 < IntKind.i64.wrap (w12 - IntKind.i64.wrap ((↑0 : Int) - (↑0 : Int)))) && (decide ((IntKind.i64.wrap (w12 - IntKind.i64.wrap ((↑0 : Int) - (↑0 : Int)))).toNat * Try.prog.types[22].bytes ≤ 140737488355328) && decide ((IntKind.i64.wrap (w12 - IntKind.i64.wrap ((↑0 : Int) - (↑0 : Int)))).toNat ≤ 9223372036854775807)) then (bif decide (0 < (↑(List.length x.fst) : Int)) then (bif decide (0 ≤ 0) && decide (0 < (↑(List.length x.fst) : Int)) then (Option.bind (x.fst[0 + Int.toNat 0]?) fun v13 => (bif decide (v13.length = v13.length) && (decide (((↑0 : Int).toNat + v13.length) * Try.prog.types[22].bytes ≤ 140737488355328) && decide ((↑0 : Int).toNat + v13.length ≤ 9223372036854775807)) then (ln81o1 N0 N1 N1 (t81o1o1 N0 N1 x ((↑0 : Int).toNat + v13.length) (IntKind.i64.wrap (0 + 1)) ([].append v13)) (h81o1o1 N0 N1 x ((↑0 : Int).toNat + v13.length) (IntKind.i64.wrap (0 + 1)) ([].append v13)) (rk81o1 N0 N1)) else none)) else none) else none) else none) else (bif decide (0 < (↑(List.length x.fst) : Int)) then (bif decide (0 ≤ 0) && decide (0 < (↑(List.length x.fst) : Int)) then (Option.bind (x.fst[0 + Int.toNat 0]?) fun v29 => (bif decide (v29.length = v29.length) && ((decide (0 = 0) || decide (0 < v29.length)) && (decide ((0 + v29.length) * Try.prog.types[22].bytes ≤ 140737488355328) && decide (0 + v29.length ≤ 9223372036854775807))) then (ln81o1 N0 N1 N1 (t81o1o2 N0 N1 x (0 + v29.length) (IntKind.i64.wrap (0 + 1)) ([].append v29)) (h81o1o2 N0 N1 x (0 + v29.length) (IntKind.i64.wrap (0 + 1)) ([].append v29)) (rk81o1 N0 N1)) else none)) else none) else some []))) := by kernel_rfl
  rw [h]
  simp only [decide_self, decide_true, Nat.zero_add, Bool.and_true, Bool.true_and, cond_true, leq81o0, leq81o1o1, leq81o1o2, leq81o1o3, rest81o1o1o0, rest81o1o2o0]
theorem rest81o1o3o0 (N0 : Nat) (N1 : Nat) (x : Sh.Ts [(Sh.int IntKind.i64).rows]) (w59 : Nat) (w60 : List (Sh.int IntKind.i64).T) : rk81o1 N0 N1 (Exit.exit 2) (tx81o1o3o0 N0 N1 x w59 w60) (hx81o1o3o0 N0 N1 x w59 w60) = (bif decide (w59 = w60.length) then some w60 else none) := by kernel_rfl
noncomputable def law81 (N0 : Nat) (N1 : Nat) (x : ((List (List Int)) × Unit)) : Option (List Int) := (bif decide (0 < (↑(List.length x.fst) : Int)) then (bif decide (0 ≤ 0) && decide (0 < (↑(List.length x.fst) : Int)) then (Option.bind (x.fst[Int.toNat 0]?) fun v0 => (bif decide (IntKind.i64.wrap (0 + (↑v0.length : Int)) < 0) then none else (law81o0 N0 N1 x (fun w12 => (bif decide (w12 < 0) then none else (bif decide (IntKind.i64.wrap (w12 - IntKind.i64.wrap ((↑0 : Int) - (↑0 : Int))) > 0) then (bif decide (0 < IntKind.i64.wrap (w12 - IntKind.i64.wrap ((↑0 : Int) - (↑0 : Int)))) && (decide ((IntKind.i64.wrap (w12 - IntKind.i64.wrap ((↑0 : Int) - (↑0 : Int)))).toNat * Try.prog.types[22].bytes ≤ 140737488355328) && decide ((IntKind.i64.wrap (w12 - IntKind.i64.wrap ((↑0 : Int) - (↑0 : Int)))).toNat ≤ 9223372036854775807)) then (bif decide (0 < (↑(List.length x.fst) : Int)) then (bif decide (0 ≤ 0) && decide (0 < (↑(List.length x.fst) : Int)) then (Option.bind (x.fst[Int.toNat 0]?) fun v13 => (bif decide (((↑0 : Int).toNat + v13.length) * Try.prog.types[22].bytes ≤ 140737488355328) && decide ((↑0 : Int).toNat + v13.length ≤ 9223372036854775807) then (law81o1o1 N0 N1 x (fun w27 w28 => (bif decide (w27 = w28.length) then some w28 else none)) N1 ((↑0 : Int).toNat + v13.length) (IntKind.i64.wrap (0 + 1)) ([].append v13)) else none)) else none) else none) else none) else (bif decide (0 < (↑(List.length x.fst) : Int)) then (bif decide (0 ≤ 0) && decide (0 < (↑(List.length x.fst) : Int)) then (Option.bind (x.fst[Int.toNat 0]?) fun v29 => (bif (decide (0 = 0) || decide (0 < v29.length)) && (decide ((0 + v29.length) * Try.prog.types[22].bytes ≤ 140737488355328) && decide (0 + v29.length ≤ 9223372036854775807)) then (law81o1o2 N0 N1 x (fun w43 w44 => (bif decide (w43 = w44.length) then some w44 else none)) N1 (0 + v29.length) (IntKind.i64.wrap (0 + 1)) ([].append v29)) else none)) else none) else some [])))) N0 (IntKind.i64.wrap (0 + (↑v0.length : Int))) (IntKind.i64.wrap (0 + 1))))) else none) else (bif decide (0 < (↑(List.length x.fst) : Int)) then (bif decide (0 ≤ 0) && decide (0 < (↑(List.length x.fst) : Int)) then (Option.bind (x.fst[Int.toNat 0]?) fun v45 => (bif (decide (0 = 0) || decide (0 < v45.length)) && (decide ((0 + v45.length) * Try.prog.types[22].bytes ≤ 140737488355328) && decide (0 + v45.length ≤ 9223372036854775807)) then (law81o1o3 N0 N1 x (fun w59 w60 => (bif decide (w59 = w60.length) then some w60 else none)) N1 (0 + v45.length) (IntKind.i64.wrap (0 + 1)) ([].append v45)) else none)) else none) else some []))
theorem eq81 (N0 : Nat) (N1 : Nat) (x : Sh.Ts [(Sh.int IntKind.i64).rows]) : codeLawF Try.prog env81 200 (L81 N0 N1) Try.f81 c81 [.rows (.int .i64)] (.int .i64) x = law81 N0 N1 x := by
  have h : codeLawF Try.prog env81 200 (L81 N0 N1) Try.f81 c81 [.rows (.int .i64)] (.int .i64) x = (bif decide (0 < (↑(List.length x.fst) : Int)) then (bif decide (0 ≤ 0) && decide (0 < (↑(List.length x.fst) : Int)) then (Option.bind (x.fst[0 + Int.toNat 0]?) fun v0 => (bif decide (IntKind.i64.wrap (0 + (↑v0.length : Int)) < 0) then none else (ln81o0 N0 N1 N0 (t81o0 N0 N1 x (IntKind.i64.wrap (0 + (↑v0.length : Int))) (IntKind.i64.wrap (0 + 1))) (h81o0 N0 N1 x (IntKind.i64.wrap (0 + (↑v0.length : Int))) (IntKind.i64.wrap (0 + 1))) (rk81o0 N0 N1)))) else none) else (bif decide (0 < (↑(List.length x.fst) : Int)) then (bif decide (0 ≤ 0) && decide (0 < (↑(List.length x.fst) : Int)) then (Option.bind (x.fst[0 + Int.toNat 0]?) fun v45 => (bif decide (v45.length = v45.length) && ((decide (0 = 0) || decide (0 < v45.length)) && (decide ((0 + v45.length) * Try.prog.types[22].bytes ≤ 140737488355328) && decide (0 + v45.length ≤ 9223372036854775807))) then (ln81o1 N0 N1 N1 (t81o1o3 N0 N1 x (0 + v45.length) (IntKind.i64.wrap (0 + 1)) ([].append v45)) (h81o1o3 N0 N1 x (0 + v45.length) (IntKind.i64.wrap (0 + 1)) ([].append v45)) (rk81o1 N0 N1)) else none)) else none) else some [])) := by kernel_rfl
  rw [h]
  unfold law81
  simp only [decide_self, decide_true, Nat.zero_add, Bool.and_true, Bool.true_and, cond_true, leq81o0, leq81o1o1, leq81o1o2, leq81o1o3, rest81o1o1o0, rest81o1o2o0, rest81o0o0, rest81o1o3o0]
noncomputable def fn81 (x : ((List (List Int)) × Unit)) : Option (List (Int)) := law81 (10 ^ 30) (10 ^ 30) x
theorem reads81 : ReadsF Try.prog 81 [.rows (.int .i64)] (.int .i64) fn81 := (ReadsF.of_code mixed (fn := Try.f81) (c := c81) Try.func81 (by kernel_rfl) (by kernel_rfl) env81 200 (L81_fit _ _)).to (eq81 _ _)
noncomputable def s81 : Summ Try.prog := reads81.summ
/- slices.Min[[]chicane/api.Fx,chicane/api.Fx] -/
noncomputable def c82 : Code := (Try.f82.body.getD .skip)
noncomputable def env82 : Env Try.prog := []
noncomputable def b82o0 : Code := ((kid ((subAt c82 [0, 1, 0, 1, 1, 1]).getD .skip) 0).getD .skip)
noncomputable def kx82o0 : Exit → List Nat | .ret => [2] | .exit 0 => [3] | _ => []
noncomputable def Li82o0 (N0 : Nat) : Loops Try.prog := []
noncomputable def ls82o0 (N0 : Nat) : LSumm Try.prog := loopSumm mixed env82 200 (Li82o0 N0) b82o0 (Loops.fit_nil) [0, 3, 4] kx82o0 (N0)
noncomputable def ln82o0 {β : Type} (N0 : Nat) (n : Nat) (t : List AV) (h : Heap) (K : Exit → List AV → Heap → Option β) : Option β := loopN Try.prog env82 (Sh.nes [.sl (.int .i64)]) 200 (Li82o0 N0) b82o0 [0, 3, 4] kx82o0 n t h K
noncomputable def L82 (N0 : Nat) : Loops Try.prog := [([0, 1, 0, 1, 1, 1], ls82o0 N0)]
theorem L82_fit (N0 : Nat) : (L82 N0).fit c82 := Loops.fit_cons (by kernel_rfl) (Loops.fit_nil)
noncomputable def K82 : Exit → List AV → Heap → Option (Sh.Ts [.int .i64]) := fun e t h => outK (P := Try.prog) Try.f82 [.int .i64] e t h
noncomputable def rk82o0 (N0 : Nat) : Exit → List AV → Heap → Option (Sh.Ts [.int .i64]) := (blkK 0 (seqK Try.prog env82 (Sh.nes [.sl (.int .i64)]) 196 (L82 N0) [1, 1, 1, 1] ((subAt c82 [1, 1, 1, 1]).getD .skip) K82))
noncomputable def t82o0 (N0 : Nat) (x : Sh.Ts [(Sh.int IntKind.i64).sl]) (i6 : (Sh.int IntKind.i64).T) (i7 : Int) : List AV := [AV.slc 0 0 (List.length x.fst) Cap.low, AV.any, AV.any, AV.val (Value.int IntKind.i64 i6), AV.val (Value.int IntKind.i64 i7), AV.any, AV.any, AV.any, AV.any, AV.any, AV.any, AV.any, AV.any, AV.any, AV.any, AV.any, AV.any, AV.any, AV.any, AV.any, AV.any, AV.any, AV.any, AV.any, AV.any]
noncomputable def h82o0 (N0 : Nat) (x : Sh.Ts [(Sh.int IntKind.i64).sl]) (i6 : (Sh.int IntKind.i64).T) (i7 : Int) : Heap := [Ent.live (Blk.mk (Cells.arr (Sh.int IntKind.i64) x.fst) false none)]
noncomputable def tx82o0o0 (N0 : Nat) (x : Sh.Ts [(Sh.int IntKind.i64).sl]) (w9 : (Sh.int IntKind.i64).T) : List AV := [AV.any, AV.any, AV.any, AV.val (Value.int IntKind.i64 w9), AV.any, AV.any, AV.any, AV.any, AV.any, AV.any, AV.any, AV.any, AV.any, AV.any, AV.any, AV.any, AV.any, AV.any, AV.any, AV.any, AV.any, AV.any, AV.any, AV.any, AV.any]
noncomputable def hx82o0o0 (N0 : Nat) (x : Sh.Ts [(Sh.int IntKind.i64).sl]) (w9 : (Sh.int IntKind.i64).T) : Heap := [Ent.live (Blk.mk (Cells.arr (Sh.int IntKind.i64) x.fst) false none)]
noncomputable def law82o0 {β : Type} (N0 : Nat) (x : ((List Int) × Unit)) (k0 : Int → Option β) : Nat → Int → Int → Option β
  | 0, _, _ => none
  | n + 1, i6, i7 => (bif decide (i7 < (↑(List.length x.fst) : Int)) then (bif decide (0 ≤ i7) && decide (i7 < (↑(List.length x.fst) : Int)) then (Option.bind x.fst[i7.toNat]? fun v8 => law82o0 N0 x k0 n (if v8 < i6 then v8 else i6) (IntKind.i64.wrap (i7 + 1))) else none) else k0 i6)
theorem leq82o0 {β : Type} (N0 : Nat) (x : Sh.Ts [(Sh.int IntKind.i64).sl]) (K : Exit → List AV → Heap → Option β) : ∀ (n : Nat) (i6 : (Sh.int IntKind.i64).T) (i7 : Int), ln82o0 N0 n (t82o0 N0 x i6 i7) (h82o0 N0 x i6 i7) K = law82o0 N0 x (fun w9 => K (Exit.exit 0) (tx82o0o0 N0 x w9) (hx82o0o0 N0 x w9)) n i6 i7
  | 0, _, _ => rfl
  | n + 1, i6, i7 => by
    have h : ln82o0 N0 (n + 1) (t82o0 N0 x i6 i7) (h82o0 N0 x i6 i7) K = (bif decide (i7 < (↑(List.length x.fst) : Int)) then (bif decide (0 ≤ i7) && decide (i7 < (↑(List.length x.fst) : Int)) then (Option.bind (x.fst[0 + i7.toNat]?) fun v8 => ln82o0 N0 n (t82o0 N0 x (if v8 < i6 then v8 else i6) (IntKind.i64.wrap (i7 + 1))) (h82o0 N0 x (if v8 < i6 then v8 else i6) (IntKind.i64.wrap (i7 + 1))) K) else none) else K (Exit.exit 0) (tx82o0o0 N0 x i6) (hx82o0o0 N0 x i6)) := by kernel_rfl
    rw [h]
    simp only [decide_self, decide_true, Nat.zero_add, Bool.and_true, Bool.true_and, cond_true, law82o0, leq82o0 N0 x K n]
theorem rest82o0o0 (N0 : Nat) (x : Sh.Ts [(Sh.int IntKind.i64).sl]) (w10 : (Sh.int IntKind.i64).T) : rk82o0 N0 (Exit.exit 0) (tx82o0o0 N0 x w10) (hx82o0o0 N0 x w10) = some ((w10, ())) := by kernel_rfl
noncomputable def law82 (N0 : Nat) (x : ((List Int) × Unit)) : Option ((Int × Unit)) := (bif decide ((↑(List.length x.fst) : Int) < 1) then none else (bif decide (0 ≤ 0) && decide (0 < (↑(List.length x.fst) : Int)) then (Option.bind (x.fst[Int.toNat 0]?) fun v0 => (law82o0 N0 x (fun w10 => some ((w10, ()))) N0 v0 1)) else none))
theorem eq82 (N0 : Nat) (x : Sh.Ts [(Sh.int IntKind.i64).sl]) : codeLaw Try.prog env82 200 (L82 N0) Try.f82 c82 [.sl (.int .i64)] [.int .i64] x = law82 N0 x := by
  have h : codeLaw Try.prog env82 200 (L82 N0) Try.f82 c82 [.sl (.int .i64)] [.int .i64] x = (bif decide ((↑(List.length x.fst) : Int) < 1) then none else (bif decide (0 ≤ 0) && decide (0 < (↑(List.length x.fst) : Int)) then (Option.bind (x.fst[0 + Int.toNat 0]?) fun v0 => (ln82o0 N0 N0 (t82o0 N0 x v0 1) (h82o0 N0 x v0 1) (rk82o0 N0))) else none)) := by kernel_rfl
  rw [h]
  unfold law82
  simp only [decide_self, decide_true, Nat.zero_add, Bool.and_true, Bool.true_and, cond_true, leq82o0, rest82o0o0]
noncomputable def fn82 (x : ((List Int) × Unit)) : Option ((Int × Unit)) := law82 (10 ^ 30) x
theorem reads82 : Reads Try.prog 82 [.sl (.int .i64)] [.int .i64] fn82 := (Reads.of_code mixed (fn := Try.f82) (c := c82) Try.func82 (by kernel_rfl) (by kernel_rfl) env82 200 (L82_fit _) (by kernel_rfl)).to (eq82 _)
noncomputable def s82 : Summ Try.prog := reads82.summ
/- slices.Max[[]chicane/api.Fx,chicane/api.Fx] -/
noncomputable def c83 : Code := (Try.f83.body.getD .skip)
noncomputable def env83 : Env Try.prog := []
noncomputable def b83o0 : Code := ((kid ((subAt c83 [0, 1, 0, 1, 1, 1]).getD .skip) 0).getD .skip)
noncomputable def kx83o0 : Exit → List Nat | .ret => [2] | .exit 0 => [3] | _ => []
noncomputable def Li83o0 (N0 : Nat) : Loops Try.prog := []
noncomputable def ls83o0 (N0 : Nat) : LSumm Try.prog := loopSumm mixed env83 200 (Li83o0 N0) b83o0 (Loops.fit_nil) [0, 3, 4] kx83o0 (N0)
noncomputable def ln83o0 {β : Type} (N0 : Nat) (n : Nat) (t : List AV) (h : Heap) (K : Exit → List AV → Heap → Option β) : Option β := loopN Try.prog env83 (Sh.nes [.sl (.int .i64)]) 200 (Li83o0 N0) b83o0 [0, 3, 4] kx83o0 n t h K
noncomputable def L83 (N0 : Nat) : Loops Try.prog := [([0, 1, 0, 1, 1, 1], ls83o0 N0)]
theorem L83_fit (N0 : Nat) : (L83 N0).fit c83 := Loops.fit_cons (by kernel_rfl) (Loops.fit_nil)
noncomputable def K83 : Exit → List AV → Heap → Option (Sh.Ts [.int .i64]) := fun e t h => outK (P := Try.prog) Try.f83 [.int .i64] e t h
noncomputable def rk83o0 (N0 : Nat) : Exit → List AV → Heap → Option (Sh.Ts [.int .i64]) := (blkK 0 (seqK Try.prog env83 (Sh.nes [.sl (.int .i64)]) 196 (L83 N0) [1, 1, 1, 1] ((subAt c83 [1, 1, 1, 1]).getD .skip) K83))
noncomputable def t83o0 (N0 : Nat) (x : Sh.Ts [(Sh.int IntKind.i64).sl]) (i6 : (Sh.int IntKind.i64).T) (i7 : Int) : List AV := [AV.slc 0 0 (List.length x.fst) Cap.low, AV.any, AV.any, AV.val (Value.int IntKind.i64 i6), AV.val (Value.int IntKind.i64 i7), AV.any, AV.any, AV.any, AV.any, AV.any, AV.any, AV.any, AV.any, AV.any, AV.any, AV.any, AV.any, AV.any, AV.any, AV.any, AV.any, AV.any, AV.any, AV.any, AV.any]
noncomputable def h83o0 (N0 : Nat) (x : Sh.Ts [(Sh.int IntKind.i64).sl]) (i6 : (Sh.int IntKind.i64).T) (i7 : Int) : Heap := [Ent.live (Blk.mk (Cells.arr (Sh.int IntKind.i64) x.fst) false none)]
noncomputable def tx83o0o0 (N0 : Nat) (x : Sh.Ts [(Sh.int IntKind.i64).sl]) (w9 : (Sh.int IntKind.i64).T) : List AV := [AV.any, AV.any, AV.any, AV.val (Value.int IntKind.i64 w9), AV.any, AV.any, AV.any, AV.any, AV.any, AV.any, AV.any, AV.any, AV.any, AV.any, AV.any, AV.any, AV.any, AV.any, AV.any, AV.any, AV.any, AV.any, AV.any, AV.any, AV.any]
noncomputable def hx83o0o0 (N0 : Nat) (x : Sh.Ts [(Sh.int IntKind.i64).sl]) (w9 : (Sh.int IntKind.i64).T) : Heap := [Ent.live (Blk.mk (Cells.arr (Sh.int IntKind.i64) x.fst) false none)]
noncomputable def law83o0 {β : Type} (N0 : Nat) (x : ((List Int) × Unit)) (k0 : Int → Option β) : Nat → Int → Int → Option β
  | 0, _, _ => none
  | n + 1, i6, i7 => (bif decide (i7 < (↑(List.length x.fst) : Int)) then (bif decide (0 ≤ i7) && decide (i7 < (↑(List.length x.fst) : Int)) then (Option.bind x.fst[i7.toNat]? fun v8 => law83o0 N0 x k0 n (if v8 > i6 then v8 else i6) (IntKind.i64.wrap (i7 + 1))) else none) else k0 i6)
theorem leq83o0 {β : Type} (N0 : Nat) (x : Sh.Ts [(Sh.int IntKind.i64).sl]) (K : Exit → List AV → Heap → Option β) : ∀ (n : Nat) (i6 : (Sh.int IntKind.i64).T) (i7 : Int), ln83o0 N0 n (t83o0 N0 x i6 i7) (h83o0 N0 x i6 i7) K = law83o0 N0 x (fun w9 => K (Exit.exit 0) (tx83o0o0 N0 x w9) (hx83o0o0 N0 x w9)) n i6 i7
  | 0, _, _ => rfl
  | n + 1, i6, i7 => by
    have h : ln83o0 N0 (n + 1) (t83o0 N0 x i6 i7) (h83o0 N0 x i6 i7) K = (bif decide (i7 < (↑(List.length x.fst) : Int)) then (bif decide (0 ≤ i7) && decide (i7 < (↑(List.length x.fst) : Int)) then (Option.bind (x.fst[0 + i7.toNat]?) fun v8 => ln83o0 N0 n (t83o0 N0 x (if v8 > i6 then v8 else i6) (IntKind.i64.wrap (i7 + 1))) (h83o0 N0 x (if v8 > i6 then v8 else i6) (IntKind.i64.wrap (i7 + 1))) K) else none) else K (Exit.exit 0) (tx83o0o0 N0 x i6) (hx83o0o0 N0 x i6)) := by kernel_rfl
    rw [h]
    simp only [decide_self, decide_true, Nat.zero_add, Bool.and_true, Bool.true_and, cond_true, law83o0, leq83o0 N0 x K n]
theorem rest83o0o0 (N0 : Nat) (x : Sh.Ts [(Sh.int IntKind.i64).sl]) (w10 : (Sh.int IntKind.i64).T) : rk83o0 N0 (Exit.exit 0) (tx83o0o0 N0 x w10) (hx83o0o0 N0 x w10) = some ((w10, ())) := by kernel_rfl
noncomputable def law83 (N0 : Nat) (x : ((List Int) × Unit)) : Option ((Int × Unit)) := (bif decide ((↑(List.length x.fst) : Int) < 1) then none else (bif decide (0 ≤ 0) && decide (0 < (↑(List.length x.fst) : Int)) then (Option.bind (x.fst[Int.toNat 0]?) fun v0 => (law83o0 N0 x (fun w10 => some ((w10, ()))) N0 v0 1)) else none))
theorem eq83 (N0 : Nat) (x : Sh.Ts [(Sh.int IntKind.i64).sl]) : codeLaw Try.prog env83 200 (L83 N0) Try.f83 c83 [.sl (.int .i64)] [.int .i64] x = law83 N0 x := by
  have h : codeLaw Try.prog env83 200 (L83 N0) Try.f83 c83 [.sl (.int .i64)] [.int .i64] x = (bif decide ((↑(List.length x.fst) : Int) < 1) then none else (bif decide (0 ≤ 0) && decide (0 < (↑(List.length x.fst) : Int)) then (Option.bind (x.fst[0 + Int.toNat 0]?) fun v0 => (ln83o0 N0 N0 (t83o0 N0 x v0 1) (h83o0 N0 x v0 1) (rk83o0 N0))) else none)) := by kernel_rfl
  rw [h]
  unfold law83
  simp only [decide_self, decide_true, Nat.zero_add, Bool.and_true, Bool.true_and, cond_true, leq83o0, rest83o0o0]
noncomputable def fn83 (x : ((List Int) × Unit)) : Option ((Int × Unit)) := law83 (10 ^ 30) x
theorem reads83 : Reads Try.prog 83 [.sl (.int .i64)] [.int .i64] fn83 := (Reads.of_code mixed (fn := Try.f83) (c := c83) Try.func83 (by kernel_rfl) (by kernel_rfl) env83 200 (L83_fit _) (by kernel_rfl)).to (eq83 _)
noncomputable def s83 : Summ Try.prog := reads83.summ
/- chicane/pane.Bounds -/
noncomputable def c69 : Code := (Try.f69.body.getD .skip)
noncomputable def env69 : Env Try.prog := [s68, s81, s82, s83]
noncomputable def L69 : Loops Try.prog := []
theorem L69_fit : (L69).fit c69 := Loops.fit_nil
noncomputable def law69 (x : (PaneT × Unit)) : Option ((Int × Int × Unit)) := (Option.bind (fn68 x) fun v0 => (bif v0.fst != 0 then some ((0, 0, ())) else (Option.bind (fn81 x.fst.snd.snd) fun v1 => (Option.bind (fn82 (v1, ())) fun v2 => (Option.bind (fn83 (v1, ())) fun v3 => some ((v2.fst, v3.fst, ())))))))
theorem eq69 (x : Sh.Ts [PaneSh]) : codeLaw Try.prog env69 200 (L69) Try.f69 c69 [PaneSh] [.int .i64, .int .i64] x = law69 x := by
  have h : codeLaw Try.prog env69 200 (L69) Try.f69 c69 [PaneSh] [.int .i64, .int .i64] x = (bif decide (List.length x.fst.fst = List.length x.fst.fst) && (decide (List.length x.fst.snd.fst = List.length x.fst.snd.fst) && (decide (List.length x.fst.snd.snd.fst = List.length x.fst.snd.snd.fst) && true)) && true then (Option.bind (fn68 x) fun v0 => (bif v0.fst != 0 then some ((0, 0, ())) else (bif decide (List.length x.fst.snd.snd.fst = List.length x.fst.snd.snd.fst) && true then (Option.bind (fn81 x.fst.snd.snd) fun v1 => (bif decide (v1.length = v1.length) && true then (Option.bind (fn82 (v1, ())) fun v2 => (bif decide (v1.length = v1.length) && true then (Option.bind (fn83 (v1, ())) fun v3 => some ((v2.fst, v3.fst, ()))) else none)) else none)) else none))) else none) := by kernel_rfl
  rw [h]
  unfold law69
  simp only [decide_self, decide_true, Nat.zero_add, Bool.and_true, Bool.true_and, cond_true]
noncomputable def fn69 (x : (PaneT × Unit)) : Option ((Int × Int × Unit)) := law69 x
theorem reads69 : Reads Try.prog 69 [PaneSh] [.int .i64, .int .i64] fn69 := (Reads.of_code mixed (fn := Try.f69) (c := c69) Try.func69 (by kernel_rfl) (by kernel_rfl) env69 200 (L69_fit) (by kernel_rfl)).to (eq69)
noncomputable def s69 : Summ Try.prog := reads69.summ
/- chicane/car.tyre -/
noncomputable def c52 : Code := (Try.f52.body.getD .skip)
noncomputable def env52 : Env Try.prog := [s68, s69, s49]
noncomputable def L52 : Loops Try.prog := []
theorem L52_fit : (L52).fit c52 := Loops.fit_nil
noncomputable def law52 (x : (PaneT × Unit)) : Option ((Int × Unit)) := (Option.bind (fn68 x) fun v0 => (bif v0.fst != 0 then some ((v0.fst, ())) else (Option.bind (fn69 x) fun v1 => (bif decide (0 ≤ 0) && decide (0 < (↑(List.length x.fst.fst) : Int)) then (Option.bind (x.fst.fst[Int.toNat 0]?) fun v2 => (bif decide (0 ≤ 0) && decide (0 < (↑(List.length x.fst.snd.fst) : Int)) then (Option.bind (x.fst.snd.fst[Int.toNat 0]?) fun v3 => (Option.bind (fn49 ([(if v1.fst < if v3 < v2 then v3 else v2 then v1.fst else if v3 < v2 then v3 else v2, 0, 18014398509481984, ()), (v1.snd.fst, 0, 17179869184, ())], ())) fun v4 => some ((v4.fst, ())))) else none)) else none))))
theorem eq52 (x : Sh.Ts [PaneSh]) : codeLaw Try.prog env52 200 (L52) Try.f52 c52 [PaneSh] [.int .i64] x = law52 x := by
  have h : codeLaw Try.prog env52 200 (L52) Try.f52 c52 [PaneSh] [.int .i64] x = (bif decide (List.length x.fst.fst = List.length x.fst.fst) && (decide (List.length x.fst.snd.fst = List.length x.fst.snd.fst) && (decide (List.length x.fst.snd.snd.fst = List.length x.fst.snd.snd.fst) && true)) && true then (Option.bind (fn68 x) fun v0 => (bif v0.fst != 0 then some ((v0.fst, ())) else (bif decide (List.length x.fst.fst = List.length x.fst.fst) && (decide (List.length x.fst.snd.fst = List.length x.fst.snd.fst) && (decide (List.length x.fst.snd.snd.fst = List.length x.fst.snd.snd.fst) && true)) && true then (Option.bind (fn69 x) fun v1 => (bif decide (0 ≤ 0) && decide (0 < (↑(List.length x.fst.fst) : Int)) then (Option.bind (x.fst.fst[0 + Int.toNat 0]?) fun v2 => (bif decide (0 ≤ 0) && decide (0 < (↑(List.length x.fst.snd.fst) : Int)) then (Option.bind (x.fst.snd.fst[0 + Int.toNat 0]?) fun v3 => (Option.bind (fn49 ([(if v1.fst < if v3 < v2 then v3 else v2 then v1.fst else if v3 < v2 then v3 else v2, 0, 18014398509481984, ()), (v1.snd.fst, 0, 17179869184, ())], ())) fun v4 => some ((v4.fst, ())))) else none)) else none)) else none))) else none) := by kernel_rfl
  rw [h]
  unfold law52
  simp only [decide_self, decide_true, Nat.zero_add, Bool.and_true, Bool.true_and, cond_true]
noncomputable def fn52 (x : (PaneT × Unit)) : Option ((Int × Unit)) := law52 x
theorem reads52 : Reads Try.prog 52 [PaneSh] [.int .i64] fn52 := (Reads.of_code mixed (fn := Try.f52) (c := c52) Try.func52 (by kernel_rfl) (by kernel_rfl) env52 200 (L52_fit) (by kernel_rfl)).to (eq52)
noncomputable def s52 : Summ Try.prog := reads52.summ
/- chicane/car.above -/
noncomputable def c71 : Code := (Try.f71.body.getD .skip)
noncomputable def env71 : Env Try.prog := []
noncomputable def L71 : Loops Try.prog := []
theorem L71_fit : (L71).fit c71 := Loops.fit_nil
noncomputable def law71 (x : (Int × Int × Unit)) : Option ((Int × Unit)) := (bif decide (x.fst ≤ x.snd.fst) then some ((41, ())) else some ((0, ())))
theorem eq71 (x : Sh.Ts [Sh.int IntKind.i64, Sh.int IntKind.i64]) : codeLaw Try.prog env71 200 (L71) Try.f71 c71 [.int .i64, .int .i64] [.int .i64] x = law71 x := by kernel_rfl
noncomputable def fn71 (x : (Int × Int × Unit)) : Option ((Int × Unit)) := law71 x
theorem reads71 : Reads Try.prog 71 [.int .i64, .int .i64] [.int .i64] fn71 := (Reads.of_code mixed (fn := Try.f71) (c := c71) Try.func71 (by kernel_rfl) (by kernel_rfl) env71 200 (L71_fit) (by kernel_rfl)).to (eq71)
noncomputable def s71 : Summ Try.prog := reads71.summ
/- chicane/car.first -/
noncomputable def c70 : Code := (Try.f70.body.getD .skip)
noncomputable def env70 : Env Try.prog := []
noncomputable def b70o0 : Code := ((kid ((subAt c70 [0, 1, 0, 1]).getD .skip) 0).getD .skip)
noncomputable def kx70o0 : Exit → List Nat | .ret => [2] | _ => []
noncomputable def Li70o0 (N0 : Nat) : Loops Try.prog := []
noncomputable def ls70o0 (N0 : Nat) : LSumm Try.prog := loopSumm mixed env70 200 (Li70o0 N0) b70o0 (Loops.fit_nil) [5, 6, 7] kx70o0 (N0)
noncomputable def ln70o0 {β : Type} (N0 : Nat) (n : Nat) (t : List AV) (h : Heap) (K : Exit → List AV → Heap → Option β) : Option β := loopN Try.prog env70 (Sh.nes [.sl (.int .i64)]) 200 (Li70o0 N0) b70o0 [5, 6, 7] kx70o0 n t h K
noncomputable def L70 (N0 : Nat) : Loops Try.prog := [([0, 1, 0, 1], ls70o0 N0)]
theorem L70_fit (N0 : Nat) : (L70 N0).fit c70 := Loops.fit_cons (by kernel_rfl) (Loops.fit_nil)
noncomputable def K70 : Exit → List AV → Heap → Option (Sh.Ts [.int .i64]) := fun e t h => outK (P := Try.prog) Try.f70 [.int .i64] e t h
noncomputable def rk70o0 (N0 : Nat) : Exit → List AV → Heap → Option (Sh.Ts [.int .i64]) := (blkK 0 (seqK Try.prog env70 (Sh.nes [.sl (.int .i64)]) 198 (L70 N0) [1, 1] ((subAt c70 [1, 1]).getD .skip) K70))
noncomputable def t70o0 (N0 : Nat) (x : Sh.Ts [(Sh.int IntKind.i64).sl]) (i5 : Int) : List AV := [AV.any, AV.any, AV.any, AV.any, AV.any, AV.slc 0 0 (List.length x.fst) Cap.low, AV.val (Value.int IntKind.i64 (↑(List.length x.fst) : Int)), AV.val (Value.int IntKind.i64 i5), AV.any, AV.any, AV.any, AV.any, AV.any, AV.any, AV.any]
noncomputable def h70o0 (N0 : Nat) (x : Sh.Ts [(Sh.int IntKind.i64).sl]) (i5 : Int) : Heap := [Ent.live (Blk.mk (Cells.arr (Sh.int IntKind.i64) x.fst) false none)]
noncomputable def tx70o0o0 (N0 : Nat) (x : Sh.Ts [(Sh.int IntKind.i64).sl]) (w7 : (Sh.int IntKind.i64).T) : List AV := [AV.any, AV.any, AV.val (Value.int IntKind.i64 w7), AV.any, AV.any, AV.any, AV.any, AV.any, AV.any, AV.any, AV.any, AV.any, AV.any, AV.any, AV.any]
noncomputable def hx70o0o0 (N0 : Nat) (x : Sh.Ts [(Sh.int IntKind.i64).sl]) (w7 : (Sh.int IntKind.i64).T) : Heap := [Ent.live (Blk.mk (Cells.arr (Sh.int IntKind.i64) x.fst) false none)]
noncomputable def tx70o0o1 (N0 : Nat) (x : Sh.Ts [(Sh.int IntKind.i64).sl]) : List AV := [AV.any, AV.any, AV.any, AV.any, AV.any, AV.any, AV.any, AV.any, AV.any, AV.any, AV.any, AV.any, AV.any, AV.any, AV.any]
noncomputable def hx70o0o1 (N0 : Nat) (x : Sh.Ts [(Sh.int IntKind.i64).sl]) : Heap := [Ent.live (Blk.mk (Cells.arr (Sh.int IntKind.i64) x.fst) false none)]
noncomputable def law70o0 {β : Type} (N0 : Nat) (x : ((List Int) × Unit)) (k0 : Int → Option β) (k1 : Option β) : Nat → Int → Option β
  | 0, _ => none
  | n + 1, i5 => (bif decide (i5 < (↑(List.length x.fst) : Int)) then (bif decide (0 ≤ i5) && decide (i5 < (↑(List.length x.fst) : Int)) then (Option.bind x.fst[i5.toNat]? fun v6 => (bif v6 != 0 then k0 v6 else law70o0 N0 x k0 k1 n (IntKind.i64.wrap (i5 + 1)))) else none) else k1)
theorem leq70o0 {β : Type} (N0 : Nat) (x : Sh.Ts [(Sh.int IntKind.i64).sl]) (K : Exit → List AV → Heap → Option β) : ∀ (n : Nat) (i5 : Int), ln70o0 N0 n (t70o0 N0 x i5) (h70o0 N0 x i5) K = law70o0 N0 x (fun w7 => K (Exit.ret) (tx70o0o0 N0 x w7) (hx70o0o0 N0 x w7)) (K (Exit.exit 0) (tx70o0o1 N0 x) (hx70o0o1 N0 x)) n i5
  | 0, _ => rfl
  | n + 1, i5 => by
    have h : ln70o0 N0 (n + 1) (t70o0 N0 x i5) (h70o0 N0 x i5) K = (bif decide (i5 < (↑(List.length x.fst) : Int)) then (bif decide (0 ≤ i5) && decide (i5 < (↑(List.length x.fst) : Int)) then (Option.bind (x.fst[0 + i5.toNat]?) fun v6 => (bif v6 != 0 then K (Exit.ret) (tx70o0o0 N0 x v6) (hx70o0o0 N0 x v6) else ln70o0 N0 n (t70o0 N0 x (IntKind.i64.wrap (i5 + 1))) (h70o0 N0 x (IntKind.i64.wrap (i5 + 1))) K)) else none) else K (Exit.exit 0) (tx70o0o1 N0 x) (hx70o0o1 N0 x)) := by kernel_rfl
    rw [h]
    simp only [decide_self, decide_true, Nat.zero_add, Bool.and_true, Bool.true_and, cond_true, law70o0, leq70o0 N0 x K n]
theorem rest70o0o0 (N0 : Nat) (x : Sh.Ts [(Sh.int IntKind.i64).sl]) (w8 : (Sh.int IntKind.i64).T) : rk70o0 N0 (Exit.ret) (tx70o0o0 N0 x w8) (hx70o0o0 N0 x w8) = some ((w8, ())) := by kernel_rfl
theorem rest70o0o1 (N0 : Nat) (x : Sh.Ts [(Sh.int IntKind.i64).sl]) : rk70o0 N0 (Exit.exit 0) (tx70o0o1 N0 x) (hx70o0o1 N0 x) = some ((0, ())) := by kernel_rfl
noncomputable def law70 (N0 : Nat) (x : ((List Int) × Unit)) : Option ((Int × Unit)) := (law70o0 N0 x (fun w8 => some ((w8, ()))) (some ((0, ()))) N0 0)
theorem eq70 (N0 : Nat) (x : Sh.Ts [(Sh.int IntKind.i64).sl]) : codeLaw Try.prog env70 200 (L70 N0) Try.f70 c70 [.sl (.int .i64)] [.int .i64] x = law70 N0 x := by
  have h : codeLaw Try.prog env70 200 (L70 N0) Try.f70 c70 [.sl (.int .i64)] [.int .i64] x = (ln70o0 N0 N0 (t70o0 N0 x 0) (h70o0 N0 x 0) (rk70o0 N0)) := by kernel_rfl
  rw [h]
  unfold law70
  simp only [decide_self, decide_true, Nat.zero_add, Bool.and_true, Bool.true_and, cond_true, leq70o0, rest70o0o0, rest70o0o1]
noncomputable def fn70 (x : ((List Int) × Unit)) : Option ((Int × Unit)) := law70 (10 ^ 30) x
theorem reads70 : Reads Try.prog 70 [.sl (.int .i64)] [.int .i64] fn70 := (Reads.of_code mixed (fn := Try.f70) (c := c70) Try.func70 (by kernel_rfl) (by kernel_rfl) env70 200 (L70_fit _) (by kernel_rfl)).to (eq70 _)
noncomputable def s70 : Summ Try.prog := reads70.summ
/- chicane/car.engine -/
noncomputable def c54 : Code := (Try.f54.body.getD .skip)
noncomputable def env54 : Env Try.prog := [s49, s71, s70]
noncomputable def L54 : Loops Try.prog := []
theorem L54_fit : (L54).fit c54 := Loops.fit_nil
noncomputable def law54 (x : (CarT × Unit)) : Option ((Int × Unit)) := (Option.bind (fn49 ([(x.fst.snd.snd.snd.snd.snd.snd.snd.snd.fst, 0, 17179869184, ()), (x.fst.snd.snd.snd.snd.snd.snd.snd.snd.snd.fst, 67108864, 68719476736, ()), (x.fst.snd.snd.snd.snd.snd.snd.snd.snd.snd.snd.fst, 137438953472, 2199023255552, ()), (x.fst.snd.snd.snd.snd.snd.snd.snd.snd.snd.snd.snd.fst, 274877906944, 8796093022208, ()), (x.fst.snd.snd.snd.snd.snd.snd.snd.snd.snd.snd.snd.snd.fst, 0, 4294967296, ()), (x.fst.snd.snd.snd.snd.snd.snd.snd.snd.snd.snd.snd.snd.snd.fst, 4294967296, 1099511627776, ()), (x.fst.snd.snd.snd.snd.snd.snd.snd.snd.snd.snd.snd.snd.snd.snd.fst, 0, 17592186044416, ())], ())) fun v0 => (Option.bind (fn71 (x.fst.snd.snd.snd.snd.snd.snd.snd.snd.snd.snd.snd.fst, x.fst.snd.snd.snd.snd.snd.snd.snd.snd.snd.snd.fst, ())) fun v1 => (Option.bind (fn70 ([v0.fst, v1.fst], ())) fun v2 => some ((v2.fst, ())))))
theorem eq54 (x : Sh.Ts [CarSh]) : codeLaw Try.prog env54 200 (L54) Try.f54 c54 [CarSh] [.int .i64] x = law54 x := by kernel_rfl
noncomputable def fn54 (x : (CarT × Unit)) : Option ((Int × Unit)) := law54 x
theorem reads54 : Reads Try.prog 54 [CarSh] [.int .i64] fn54 := (Reads.of_code mixed (fn := Try.f54) (c := c54) Try.func54 (by kernel_rfl) (by kernel_rfl) env54 200 (L54_fit) (by kernel_rfl)).to (eq54)
noncomputable def s54 : Summ Try.prog := reads54.summ
/- chicane/car.gears -/
noncomputable def c55 : Code := (Try.f55.body.getD .skip)
noncomputable def env55 : Env Try.prog := [s49]
noncomputable def b55o0 : Code := ((kid ((subAt c55 [0, 1, 0, 1, 1, 1]).getD .skip) 0).getD .skip)
noncomputable def kx55o0 : Exit → List Nat | .ret => [2] | .exit 0 => [3] | _ => []
noncomputable def Li55o0 (N0 : Nat) : Loops Try.prog := []
noncomputable def ls55o0 (N0 : Nat) : LSumm Try.prog := loopSumm mixed env55 200 (Li55o0 N0) b55o0 (Loops.fit_nil) [3, 24, 25, 26] kx55o0 (Nat.succ N0)
noncomputable def ln55o0 {β : Type} (N0 : Nat) (n : Nat) (t : List AV) (h : Heap) (K : Exit → List AV → Heap → Option β) : Option β := loopN Try.prog env55 (Sh.nes [CarSh]) 200 (Li55o0 N0) b55o0 [3, 24, 25, 26] kx55o0 n t h K
noncomputable def L55 (N0 : Nat) : Loops Try.prog := [([0, 1, 0, 1, 1, 1], ls55o0 N0)]
theorem L55_fit (N0 : Nat) : (L55 N0).fit c55 := Loops.fit_cons (by kernel_rfl) (Loops.fit_nil)
noncomputable def K55 : Exit → List AV → Heap → Option (Sh.Ts [.int .i64]) := fun e t h => outK (P := Try.prog) Try.f55 [.int .i64] e t h
noncomputable def rk55o0 (N0 : Nat) : Exit → List AV → Heap → Option (Sh.Ts [.int .i64]) := (blkK 0 (seqK Try.prog env55 (Sh.nes [CarSh]) 196 (L55 N0) [1, 1, 1, 1] ((subAt c55 [1, 1, 1, 1]).getD .skip) K55))
noncomputable def t55o0 (N0 : Nat) (x : Sh.Ts [CarSh]) (i14 : Nat) (i15 : Int) (i16 : List (Sh.st [Sh.int IntKind.i64, Sh.int IntKind.i64, Sh.int IntKind.i64]).T) : List AV := [AV.any, AV.any, AV.any, AV.slc 7 0 i14 Cap.unk, AV.any, AV.any, AV.any, AV.any, AV.any, AV.any, AV.any, AV.any, AV.any, AV.any, AV.any, AV.any, AV.any, AV.any, AV.any, AV.any, AV.any, AV.any, AV.any, AV.any, AV.slc 6 0 (List.length x.fst.snd.snd.snd.snd.snd.snd.snd.snd.snd.snd.snd.snd.snd.snd.snd.snd.fst) Cap.low, AV.val (Value.int IntKind.i64 (↑(List.length x.fst.snd.snd.snd.snd.snd.snd.snd.snd.snd.snd.snd.snd.snd.snd.snd.snd.fst) : Int)), AV.val (Value.int IntKind.i64 i15), AV.any, AV.any, AV.any, AV.any, AV.any, AV.any, AV.any, AV.any, AV.any, AV.any, AV.any]
noncomputable def h55o0 (N0 : Nat) (x : Sh.Ts [CarSh]) (i14 : Nat) (i15 : Int) (i16 : List (Sh.st [Sh.int IntKind.i64, Sh.int IntKind.i64, Sh.int IntKind.i64]).T) : Heap := [Ent.live (Blk.mk (Cells.arr (Sh.st [Sh.int IntKind.i64, Sh.int IntKind.i64]) x.fst.snd.snd.snd.snd.fst) false none), Ent.live (Blk.mk (Cells.arr (Sh.int IntKind.i64) x.fst.snd.snd.snd.snd.snd.fst.fst) false none), Ent.live (Blk.mk (Cells.arr (Sh.int IntKind.i64) x.fst.snd.snd.snd.snd.snd.fst.snd.fst) false none), Ent.live (Blk.mk (Cells.arrs (Sh.int IntKind.i64) x.fst.snd.snd.snd.snd.snd.fst.snd.snd.fst) false none), Ent.live (Blk.mk (Cells.arr (Sh.st [Sh.int IntKind.i64, Sh.int IntKind.i64]) x.fst.snd.snd.snd.snd.snd.snd.fst) false none), Ent.live (Blk.mk (Cells.arr (Sh.st [Sh.int IntKind.i64, Sh.int IntKind.i64]) x.fst.snd.snd.snd.snd.snd.snd.snd.fst) false none), Ent.live (Blk.mk (Cells.arr (Sh.int IntKind.i64) x.fst.snd.snd.snd.snd.snd.snd.snd.snd.snd.snd.snd.snd.snd.snd.snd.snd.fst) false none), Ent.live (Blk.mk (Cells.arr (Sh.st [Sh.int IntKind.i64, Sh.int IntKind.i64, Sh.int IntKind.i64]) i16) true (some 3))]
noncomputable def tx55o0o0 (N0 : Nat) (x : Sh.Ts [CarSh]) (w18 : Nat) (w19 : List (Sh.st [Sh.int IntKind.i64, Sh.int IntKind.i64, Sh.int IntKind.i64]).T) : List AV := [AV.any, AV.any, AV.any, AV.slc 7 0 w18 Cap.unk, AV.any, AV.any, AV.any, AV.any, AV.any, AV.any, AV.any, AV.any, AV.any, AV.any, AV.any, AV.any, AV.any, AV.any, AV.any, AV.any, AV.any, AV.any, AV.any, AV.any, AV.any, AV.any, AV.any, AV.any, AV.any, AV.any, AV.any, AV.any, AV.any, AV.any, AV.any, AV.any, AV.any, AV.any]
noncomputable def hx55o0o0 (N0 : Nat) (x : Sh.Ts [CarSh]) (w18 : Nat) (w19 : List (Sh.st [Sh.int IntKind.i64, Sh.int IntKind.i64, Sh.int IntKind.i64]).T) : Heap := [Ent.live (Blk.mk (Cells.arr (Sh.st [Sh.int IntKind.i64, Sh.int IntKind.i64]) x.fst.snd.snd.snd.snd.fst) false none), Ent.live (Blk.mk (Cells.arr (Sh.int IntKind.i64) x.fst.snd.snd.snd.snd.snd.fst.fst) false none), Ent.live (Blk.mk (Cells.arr (Sh.int IntKind.i64) x.fst.snd.snd.snd.snd.snd.fst.snd.fst) false none), Ent.live (Blk.mk (Cells.arrs (Sh.int IntKind.i64) x.fst.snd.snd.snd.snd.snd.fst.snd.snd.fst) false none), Ent.live (Blk.mk (Cells.arr (Sh.st [Sh.int IntKind.i64, Sh.int IntKind.i64]) x.fst.snd.snd.snd.snd.snd.snd.fst) false none), Ent.live (Blk.mk (Cells.arr (Sh.st [Sh.int IntKind.i64, Sh.int IntKind.i64]) x.fst.snd.snd.snd.snd.snd.snd.snd.fst) false none), Ent.live (Blk.mk (Cells.arr (Sh.int IntKind.i64) x.fst.snd.snd.snd.snd.snd.snd.snd.snd.snd.snd.snd.snd.snd.snd.snd.snd.fst) false none), Ent.live (Blk.mk (Cells.arr (Sh.st [Sh.int IntKind.i64, Sh.int IntKind.i64, Sh.int IntKind.i64]) w19) true (some 3))]
noncomputable def law55o0 {β : Type} (N0 : Nat) (x : (CarT × Unit)) (k0 : Nat → List (Int × Int × Int × Unit) → Option β) : Nat → Nat → Int → List (Int × Int × Int × Unit) → Option β
  | 0, _, _, _ => none
  | n + 1, i14, i15, i16 => (bif decide (i15 < (↑(List.length x.fst.snd.snd.snd.snd.snd.snd.snd.snd.snd.snd.snd.snd.snd.snd.snd.snd.fst) : Int)) then (bif decide (0 ≤ i15) && decide (i15 < (↑(List.length x.fst.snd.snd.snd.snd.snd.snd.snd.snd.snd.snd.snd.snd.snd.snd.snd.snd.fst) : Int)) then (Option.bind x.fst.snd.snd.snd.snd.snd.snd.snd.snd.snd.snd.snd.snd.snd.snd.snd.snd.fst[i15.toNat]? fun v17 => (bif decide (i14 = i16.length) && (decide ((i14 + 1) * Try.prog.types[90].bytes ≤ 140737488355328) && decide (i14 + 1 ≤ 9223372036854775807)) then law55o0 N0 x k0 n (i14 + 1) (IntKind.i64.wrap (i15 + 1)) (i16.append [(v17, 1073741824, 137438953472, ())]) else none)) else none) else k0 i14 i16)
theorem leq55o0 {β : Type} (N0 : Nat) (x : Sh.Ts [CarSh]) (K : Exit → List AV → Heap → Option β) : ∀ (n : Nat) (i14 : Nat) (i15 : Int) (i16 : List (Sh.st [Sh.int IntKind.i64, Sh.int IntKind.i64, Sh.int IntKind.i64]).T), ln55o0 N0 n (t55o0 N0 x i14 i15 i16) (h55o0 N0 x i14 i15 i16) K = law55o0 N0 x (fun w18 w19 => K (Exit.exit 0) (tx55o0o0 N0 x w18 w19) (hx55o0o0 N0 x w18 w19)) n i14 i15 i16
  | 0, _, _, _ => rfl
  | n + 1, i14, i15, i16 => by
    have h : ln55o0 N0 (n + 1) (t55o0 N0 x i14 i15 i16) (h55o0 N0 x i14 i15 i16) K = (bif decide (i15 < (↑(List.length x.fst.snd.snd.snd.snd.snd.snd.snd.snd.snd.snd.snd.snd.snd.snd.snd.snd.fst) : Int)) then (bif decide (0 ≤ i15) && decide (i15 < (↑(List.length x.fst.snd.snd.snd.snd.snd.snd.snd.snd.snd.snd.snd.snd.snd.snd.snd.snd.fst) : Int)) then (Option.bind (x.fst.snd.snd.snd.snd.snd.snd.snd.snd.snd.snd.snd.snd.snd.snd.snd.snd.fst[0 + i15.toNat]?) fun v17 => (bif decide (i14 = i16.length) && (decide ((i14 + 1) * Try.prog.types[90].bytes ≤ 140737488355328) && decide (i14 + 1 ≤ 9223372036854775807)) then ln55o0 N0 n (t55o0 N0 x (i14 + 1) (IntKind.i64.wrap (i15 + 1)) (i16.append [(v17, 1073741824, 137438953472, ())])) (h55o0 N0 x (i14 + 1) (IntKind.i64.wrap (i15 + 1)) (i16.append [(v17, 1073741824, 137438953472, ())])) K else none)) else none) else K (Exit.exit 0) (tx55o0o0 N0 x i14 i16) (hx55o0o0 N0 x i14 i16)) := by kernel_rfl
    rw [h]
    simp only [decide_self, decide_true, Nat.zero_add, Bool.and_true, Bool.true_and, cond_true, law55o0, leq55o0 N0 x K n]
theorem rest55o0o0 (N0 : Nat) (x : Sh.Ts [CarSh]) (w20 : Nat) (w21 : List (Sh.st [Sh.int IntKind.i64, Sh.int IntKind.i64, Sh.int IntKind.i64]).T) : rk55o0 N0 (Exit.exit 0) (tx55o0o0 N0 x w20 w21) (hx55o0o0 N0 x w20 w21) = (bif decide (w20 = w21.length) then (Option.bind (fn49 (w21, ())) fun v22 => some ((v22.fst, ()))) else none) := by
  have h : rk55o0 N0 (Exit.exit 0) (tx55o0o0 N0 x w20 w21) (hx55o0o0 N0 x w20 w21) = (bif decide (w20 = w21.length) && true then (Option.bind (fn49 (w21, ())) fun v22 => some ((v22.fst, ()))) else none) := by kernel_rfl
  rw [h]
  simp only [decide_self, decide_true, Nat.zero_add, Bool.and_true, Bool.true_and, cond_true, leq55o0]
noncomputable def law55 (N0 : Nat) (x : (CarT × Unit)) : Option ((Int × Unit)) := (bif decide ((↑(List.length x.fst.snd.snd.snd.snd.snd.snd.snd.snd.snd.snd.snd.snd.snd.snd.snd.snd.fst) : Int) < 1) then some ((42, ())) else (bif decide ((↑(List.length x.fst.snd.snd.snd.snd.snd.snd.snd.snd.snd.snd.snd.snd.snd.snd.snd.snd.fst) : Int) > 8) then some ((42, ())) else (bif decide (0 < (↑(List.length x.fst.snd.snd.snd.snd.snd.snd.snd.snd.snd.snd.snd.snd.snd.snd.snd.snd.fst) : Int)) then (bif decide (0 ≤ 0) && decide (0 < (↑(List.length x.fst.snd.snd.snd.snd.snd.snd.snd.snd.snd.snd.snd.snd.snd.snd.snd.snd.fst) : Int)) then (Option.bind (x.fst.snd.snd.snd.snd.snd.snd.snd.snd.snd.snd.snd.snd.snd.snd.snd.snd.fst[Int.toNat 0]?) fun v0 => (law55o0 N0 x (fun w20 w21 => (bif decide (w20 = w21.length) then (Option.bind (fn49 (w21, ())) fun v22 => some ((v22.fst, ()))) else none)) N0 3 (IntKind.i64.wrap (0 + 1)) ([(x.fst.snd.snd.snd.snd.snd.snd.snd.snd.snd.snd.snd.snd.snd.snd.snd.fst, 1073741824, 137438953472, ()), (x.fst.snd.snd.snd.snd.snd.snd.snd.snd.snd.snd.snd.snd.snd.snd.snd.snd.snd.fst, 2147483648, 68719476736, ()), (v0, 1073741824, 137438953472, ())]))) else none) else (Option.bind (fn49 ([(x.fst.snd.snd.snd.snd.snd.snd.snd.snd.snd.snd.snd.snd.snd.snd.snd.fst, 1073741824, 137438953472, ()), (x.fst.snd.snd.snd.snd.snd.snd.snd.snd.snd.snd.snd.snd.snd.snd.snd.snd.snd.fst, 2147483648, 68719476736, ())], ())) fun v23 => some ((v23.fst, ()))))))
theorem eq55 (N0 : Nat) (x : Sh.Ts [CarSh]) : codeLaw Try.prog env55 200 (L55 N0) Try.f55 c55 [CarSh] [.int .i64] x = law55 N0 x := by
  have h : codeLaw Try.prog env55 200 (L55 N0) Try.f55 c55 [CarSh] [.int .i64] x = (bif decide ((↑(List.length x.fst.snd.snd.snd.snd.snd.snd.snd.snd.snd.snd.snd.snd.snd.snd.snd.snd.fst) : Int) < 1) then some ((42, ())) else (bif decide ((↑(List.length x.fst.snd.snd.snd.snd.snd.snd.snd.snd.snd.snd.snd.snd.snd.snd.snd.snd.fst) : Int) > 8) then some ((42, ())) else (bif decide (0 < (↑(List.length x.fst.snd.snd.snd.snd.snd.snd.snd.snd.snd.snd.snd.snd.snd.snd.snd.snd.fst) : Int)) then (bif decide (0 ≤ 0) && decide (0 < (↑(List.length x.fst.snd.snd.snd.snd.snd.snd.snd.snd.snd.snd.snd.snd.snd.snd.snd.snd.fst) : Int)) then (Option.bind (x.fst.snd.snd.snd.snd.snd.snd.snd.snd.snd.snd.snd.snd.snd.snd.snd.snd.fst[0 + Int.toNat 0]?) fun v0 => (ln55o0 N0 N0 (t55o0 N0 x 3 (IntKind.i64.wrap (0 + 1)) ([(x.fst.snd.snd.snd.snd.snd.snd.snd.snd.snd.snd.snd.snd.snd.snd.snd.fst, 1073741824, 137438953472, ()), (x.fst.snd.snd.snd.snd.snd.snd.snd.snd.snd.snd.snd.snd.snd.snd.snd.snd.snd.fst, 2147483648, 68719476736, ()), (v0, 1073741824, 137438953472, ())])) (h55o0 N0 x 3 (IntKind.i64.wrap (0 + 1)) ([(x.fst.snd.snd.snd.snd.snd.snd.snd.snd.snd.snd.snd.snd.snd.snd.snd.fst, 1073741824, 137438953472, ()), (x.fst.snd.snd.snd.snd.snd.snd.snd.snd.snd.snd.snd.snd.snd.snd.snd.snd.snd.fst, 2147483648, 68719476736, ()), (v0, 1073741824, 137438953472, ())])) (rk55o0 N0))) else none) else (Option.bind (fn49 ([(x.fst.snd.snd.snd.snd.snd.snd.snd.snd.snd.snd.snd.snd.snd.snd.snd.fst, 1073741824, 137438953472, ()), (x.fst.snd.snd.snd.snd.snd.snd.snd.snd.snd.snd.snd.snd.snd.snd.snd.snd.snd.fst, 2147483648, 68719476736, ())], ())) fun v23 => some ((v23.fst, ())))))) := by kernel_rfl
  rw [h]
  unfold law55
  simp only [decide_self, decide_true, Nat.zero_add, Bool.and_true, Bool.true_and, cond_true, leq55o0, rest55o0o0]
noncomputable def fn55 (x : (CarT × Unit)) : Option ((Int × Unit)) := law55 (10 ^ 30) x
theorem reads55 : Reads Try.prog 55 [CarSh] [.int .i64] fn55 := (Reads.of_code mixed (fn := Try.f55) (c := c55) Try.func55 (by kernel_rfl) (by kernel_rfl) env55 200 (L55_fit _) (by kernel_rfl)).to (eq55 _)
noncomputable def s55 : Summ Try.prog := reads55.summ
/- chicane/car.rest -/
noncomputable def c56 : Code := (Try.f56.body.getD .skip)
noncomputable def env56 : Env Try.prog := [s49]
noncomputable def L56 : Loops Try.prog := []
theorem L56_fit : (L56).fit c56 := Loops.fit_nil
noncomputable def law56 (x : (CarT × Unit)) : Option ((Int × Unit)) := (bif x.fst.snd.snd.snd.snd.snd.snd.snd.snd.snd.snd.snd.snd.snd.snd.snd.snd.snd.snd.fst == 0 then (bif x.fst.snd.snd.snd.snd.snd.snd.snd.snd.snd.snd.snd.snd.snd.snd.snd.snd.snd.snd.fst == 0 then (Option.bind (fn49 ([(x.fst.snd.snd.snd.snd.snd.snd.snd.snd.snd.snd.snd.snd.snd.snd.snd.snd.snd.snd.snd.fst, 0, 281474976710656, ()), (x.fst.snd.snd.snd.snd.snd.snd.snd.snd.snd.snd.snd.snd.snd.snd.snd.snd.snd.snd.snd.snd.fst, 0, 70368744177664, ()), (x.fst.snd.snd.snd.snd.snd.snd.snd.snd.snd.snd.snd.snd.snd.snd.snd.snd.snd.snd.snd.snd.snd.fst, 0, 70368744177664, ()), (x.fst.snd.snd.snd.snd.snd.snd.snd.snd.snd.snd.snd.snd.snd.snd.snd.snd.snd.snd.snd.snd.snd.snd.fst, 0, 4294967296, ()), (IntKind.i64.wrap x.fst.snd.snd.snd.snd.snd.snd.snd.snd.snd.snd.snd.snd.snd.snd.snd.snd.snd.snd.snd.snd.snd.snd.snd.fst, 0, 536870912, ()), (IntKind.i64.wrap x.fst.snd.snd.snd.snd.snd.snd.snd.snd.snd.snd.snd.snd.snd.snd.snd.snd.snd.snd.snd.snd.snd.snd.snd.snd.fst, 0, 2147483648, ())], ())) fun v0 => some ((v0.fst, ()))) else some ((40, ()))) else (bif x.fst.snd.snd.snd.snd.snd.snd.snd.snd.snd.snd.snd.snd.snd.snd.snd.snd.snd.snd.fst == 1 then (bif x.fst.snd.snd.snd.snd.snd.snd.snd.snd.snd.snd.snd.snd.snd.snd.snd.snd.snd.snd.fst == 1 then (Option.bind (fn49 ([(x.fst.snd.snd.snd.snd.snd.snd.snd.snd.snd.snd.snd.snd.snd.snd.snd.snd.snd.snd.snd.fst, 0, 281474976710656, ()), (x.fst.snd.snd.snd.snd.snd.snd.snd.snd.snd.snd.snd.snd.snd.snd.snd.snd.snd.snd.snd.snd.fst, 0, 70368744177664, ()), (x.fst.snd.snd.snd.snd.snd.snd.snd.snd.snd.snd.snd.snd.snd.snd.snd.snd.snd.snd.snd.snd.snd.fst, 0, 70368744177664, ()), (x.fst.snd.snd.snd.snd.snd.snd.snd.snd.snd.snd.snd.snd.snd.snd.snd.snd.snd.snd.snd.snd.snd.snd.fst, 0, 4294967296, ()), (IntKind.i64.wrap x.fst.snd.snd.snd.snd.snd.snd.snd.snd.snd.snd.snd.snd.snd.snd.snd.snd.snd.snd.snd.snd.snd.snd.snd.fst, 0, 536870912, ()), (IntKind.i64.wrap x.fst.snd.snd.snd.snd.snd.snd.snd.snd.snd.snd.snd.snd.snd.snd.snd.snd.snd.snd.snd.snd.snd.snd.snd.snd.fst, 0, 2147483648, ())], ())) fun v1 => some ((v1.fst, ()))) else some ((40, ()))) else (bif x.fst.snd.snd.snd.snd.snd.snd.snd.snd.snd.snd.snd.snd.snd.snd.snd.snd.snd.snd.fst == 2 then (Option.bind (fn49 ([(x.fst.snd.snd.snd.snd.snd.snd.snd.snd.snd.snd.snd.snd.snd.snd.snd.snd.snd.snd.snd.fst, 0, 281474976710656, ()), (x.fst.snd.snd.snd.snd.snd.snd.snd.snd.snd.snd.snd.snd.snd.snd.snd.snd.snd.snd.snd.snd.fst, 0, 70368744177664, ()), (x.fst.snd.snd.snd.snd.snd.snd.snd.snd.snd.snd.snd.snd.snd.snd.snd.snd.snd.snd.snd.snd.snd.fst, 0, 70368744177664, ()), (x.fst.snd.snd.snd.snd.snd.snd.snd.snd.snd.snd.snd.snd.snd.snd.snd.snd.snd.snd.snd.snd.snd.snd.fst, 0, 4294967296, ()), (IntKind.i64.wrap x.fst.snd.snd.snd.snd.snd.snd.snd.snd.snd.snd.snd.snd.snd.snd.snd.snd.snd.snd.snd.snd.snd.snd.snd.fst, 0, 536870912, ()), (IntKind.i64.wrap x.fst.snd.snd.snd.snd.snd.snd.snd.snd.snd.snd.snd.snd.snd.snd.snd.snd.snd.snd.snd.snd.snd.snd.snd.snd.fst, 0, 2147483648, ())], ())) fun v2 => some ((v2.fst, ()))) else some ((40, ())))))
theorem eq56 (x : Sh.Ts [CarSh]) : codeLaw Try.prog env56 200 (L56) Try.f56 c56 [CarSh] [.int .i64] x = law56 x := by kernel_rfl
noncomputable def fn56 (x : (CarT × Unit)) : Option ((Int × Unit)) := law56 x
theorem reads56 : Reads Try.prog 56 [CarSh] [.int .i64] fn56 := (Reads.of_code mixed (fn := Try.f56) (c := c56) Try.func56 (by kernel_rfl) (by kernel_rfl) env56 200 (L56_fit) (by kernel_rfl)).to (eq56)
noncomputable def s56 : Summ Try.prog := reads56.summ
/- chicane/car.ease -/
noncomputable def c57 : Code := (Try.f57.body.getD .skip)
noncomputable def env57 : Env Try.prog := [s49, s71, s70]
noncomputable def L57 : Loops Try.prog := []
theorem L57_fit : (L57).fit c57 := Loops.fit_nil
noncomputable def law57 (x : (CarT × Unit)) : Option ((Int × Unit)) := (Option.bind (fn49 ([(x.fst.snd.snd.snd.snd.snd.snd.snd.snd.snd.snd.snd.snd.snd.snd.snd.snd.snd.snd.snd.snd.snd.snd.snd.snd.snd.snd.snd.snd.fst, 0, 17179869184, ()), (x.fst.snd.snd.snd.snd.snd.snd.snd.snd.snd.snd.snd.snd.snd.snd.snd.snd.snd.snd.snd.snd.snd.snd.snd.snd.snd.snd.snd.snd.snd.fst, 0, 17179869184, ()), (x.fst.snd.snd.snd.snd.snd.snd.snd.snd.snd.snd.snd.snd.snd.snd.snd.snd.snd.snd.snd.snd.snd.snd.snd.snd.snd.snd.snd.snd.snd.snd.fst, 0, 8796093022208, ()), (x.fst.snd.snd.snd.snd.snd.snd.snd.snd.snd.snd.snd.snd.snd.snd.snd.snd.snd.snd.snd.snd.snd.snd.snd.snd.snd.snd.snd.snd.snd.snd.snd.fst, 0, 8796093022208, ())], ())) fun v0 => (Option.bind (fn71 x.fst.snd.snd.snd.snd.snd.snd.snd.snd.snd.snd.snd.snd.snd.snd.snd.snd.snd.snd.snd.snd.snd.snd.snd.snd.snd.snd.snd.snd.snd.snd) fun v1 => (Option.bind (fn70 ([v0.fst, v1.fst], ())) fun v2 => some ((v2.fst, ())))))
theorem eq57 (x : Sh.Ts [CarSh]) : codeLaw Try.prog env57 200 (L57) Try.f57 c57 [CarSh] [.int .i64] x = law57 x := by kernel_rfl
noncomputable def fn57 (x : (CarT × Unit)) : Option ((Int × Unit)) := law57 x
theorem reads57 : Reads Try.prog 57 [CarSh] [.int .i64] fn57 := (Reads.of_code mixed (fn := Try.f57) (c := c57) Try.func57 (by kernel_rfl) (by kernel_rfl) env57 200 (L57_fit) (by kernel_rfl)).to (eq57)
noncomputable def s57 : Summ Try.prog := reads57.summ
/- chicane/car.all -/
noncomputable def c25 : Code := (Try.f25.body.getD .skip)
noncomputable def env25 : Env Try.prog := [s47, s48, s49, s50, s51, s52, s53, s54, s55, s56, s57]
noncomputable def L25 : Loops Try.prog := []
theorem L25_fit : (L25).fit c25 := Loops.fit_nil
noncomputable def law25 (x : (CarT × Unit)) : Option (List Int) := (Option.bind (fn47 x) fun v0 => (Option.bind (fn48 (x.fst.snd.snd.fst.fst, ())) fun v1 => (Option.bind (fn48 (x.fst.snd.snd.fst.snd.fst, ())) fun v2 => (Option.bind (fn48 (x.fst.snd.snd.fst.snd.snd.fst, ())) fun v3 => (Option.bind (fn48 x.fst.snd.snd.fst.snd.snd.snd) fun v4 => (Option.bind (fn49 ([(x.fst.snd.snd.snd.fst.fst, 0, 562949953421312, ()), (x.fst.snd.snd.snd.fst.snd.fst, 0, 562949953421312, ())], ())) fun v5 => (Option.bind (fn50x51 (x.fst.snd.snd.snd.snd.fst, -140737488355328, 140737488355328, ()) ()) fun v6 => (Option.bind (fn52 (x.fst.snd.snd.snd.snd.snd.fst, ())) fun v7 => (Option.bind (fn50x53 (x.fst.snd.snd.snd.snd.snd.snd.fst, -17592186044416, 17592186044416, ()) ()) fun v8 => (Option.bind (fn50x53 (x.fst.snd.snd.snd.snd.snd.snd.snd.fst, 0, 140737488355328, ()) ()) fun v9 => (Option.bind (fn54 x) fun v10 => (Option.bind (fn55 x) fun v11 => (Option.bind (fn56 x) fun v12 => (Option.bind (fn57 x) fun v13 => some ([v0.fst, v1.fst, v2.fst, v3.fst, v4.fst, v5.fst, v6.fst, v7.fst, v8.fst, v9.fst, v10.fst, v11.fst, v12.fst, v13.fst])))))))))))))))
theorem eq25 (x : Sh.Ts [CarSh]) : codeLawF Try.prog env25 200 (L25) Try.f25 c25 [CarSh] (.int .i64) x = law25 x := by
  have h : codeLawF Try.prog env25 200 (L25) Try.f25 c25 [CarSh] (.int .i64) x = (bif decide (List.length x.fst.snd.snd.snd.snd.fst = List.length x.fst.snd.snd.snd.snd.fst) && (decide (List.length x.fst.snd.snd.snd.snd.snd.fst.fst = List.length x.fst.snd.snd.snd.snd.snd.fst.fst) && (decide (List.length x.fst.snd.snd.snd.snd.snd.fst.snd.fst = List.length x.fst.snd.snd.snd.snd.snd.fst.snd.fst) && (decide (List.length x.fst.snd.snd.snd.snd.snd.fst.snd.snd.fst = List.length x.fst.snd.snd.snd.snd.snd.fst.snd.snd.fst) && true)) && (decide (List.length x.fst.snd.snd.snd.snd.snd.snd.fst = List.length x.fst.snd.snd.snd.snd.snd.snd.fst) && (decide (List.length x.fst.snd.snd.snd.snd.snd.snd.snd.fst = List.length x.fst.snd.snd.snd.snd.snd.snd.snd.fst) && (decide (List.length x.fst.snd.snd.snd.snd.snd.snd.snd.snd.snd.snd.snd.snd.snd.snd.snd.snd.fst = List.length x.fst.snd.snd.snd.snd.snd.snd.snd.snd.snd.snd.snd.snd.snd.snd.snd.snd.fst) && true)))) && true then (Option.bind (fn47 x) fun v0 => (Option.bind (fn48 (x.fst.snd.snd.fst.fst, ())) fun v1 => (Option.bind (fn48 (x.fst.snd.snd.fst.snd.fst, ())) fun v2 => (Option.bind (fn48 (x.fst.snd.snd.fst.snd.snd.fst, ())) fun v3 => (Option.bind (fn48 x.fst.snd.snd.fst.snd.snd.snd) fun v4 => (Option.bind (fn49 ([(x.fst.snd.snd.snd.fst.fst, 0, 562949953421312, ()), (x.fst.snd.snd.snd.fst.snd.fst, 0, 562949953421312, ())], ())) fun v5 => (bif decide (List.length x.fst.snd.snd.snd.snd.fst = List.length x.fst.snd.snd.snd.snd.fst) && true && true then (Option.bind (fn50x51 (x.fst.snd.snd.snd.snd.fst, -140737488355328, 140737488355328, ()) ()) fun v6 => (bif decide (List.length x.fst.snd.snd.snd.snd.snd.fst.fst = List.length x.fst.snd.snd.snd.snd.snd.fst.fst) && (decide (List.length x.fst.snd.snd.snd.snd.snd.fst.snd.fst = List.length x.fst.snd.snd.snd.snd.snd.fst.snd.fst) && (decide (List.length x.fst.snd.snd.snd.snd.snd.fst.snd.snd.fst = List.length x.fst.snd.snd.snd.snd.snd.fst.snd.snd.fst) && true)) && true then (Option.bind (fn52 (x.fst.snd.snd.snd.snd.snd.fst, ())) fun v7 => (bif decide (List.length x.fst.snd.snd.snd.snd.snd.snd.fst = List.length x.fst.snd.snd.snd.snd.snd.snd.fst) && true && true then (Option.bind (fn50x53 (x.fst.snd.snd.snd.snd.snd.snd.fst, -17592186044416, 17592186044416, ()) ()) fun v8 => (bif decide (List.length x.fst.snd.snd.snd.snd.snd.snd.snd.fst = List.length x.fst.snd.snd.snd.snd.snd.snd.snd.fst) && true && true then (Option.bind (fn50x53 (x.fst.snd.snd.snd.snd.snd.snd.snd.fst, 0, 140737488355328, ()) ()) fun v9 => (bif decide (List.length x.fst.snd.snd.snd.snd.fst = List.length x.fst.snd.snd.snd.snd.fst) && (decide (List.length x.fst.snd.snd.snd.snd.snd.fst.fst = List.length x.fst.snd.snd.snd.snd.snd.fst.fst) && (decide (List.length x.fst.snd.snd.snd.snd.snd.fst.snd.fst = List.length x.fst.snd.snd.snd.snd.snd.fst.snd.fst) && (decide (List.length x.fst.snd.snd.snd.snd.snd.fst.snd.snd.fst = List.length x.fst.snd.snd.snd.snd.snd.fst.snd.snd.fst) && true)) && (decide (List.length x.fst.snd.snd.snd.snd.snd.snd.fst = List.length x.fst.snd.snd.snd.snd.snd.snd.fst) && (decide (List.length x.fst.snd.snd.snd.snd.snd.snd.snd.fst = List.length x.fst.snd.snd.snd.snd.snd.snd.snd.fst) && (decide (List.length x.fst.snd.snd.snd.snd.snd.snd.snd.snd.snd.snd.snd.snd.snd.snd.snd.snd.fst = List.length x.fst.snd.snd.snd.snd.snd.snd.snd.snd.snd.snd.snd.snd.snd.snd.snd.snd.fst) && true)))) && true then (Option.bind (fn54 x) fun v10 => (bif decide (List.length x.fst.snd.snd.snd.snd.fst = List.length x.fst.snd.snd.snd.snd.fst) && (decide (List.length x.fst.snd.snd.snd.snd.snd.fst.fst = List.length x.fst.snd.snd.snd.snd.snd.fst.fst) && (decide (List.length x.fst.snd.snd.snd.snd.snd.fst.snd.fst = List.length x.fst.snd.snd.snd.snd.snd.fst.snd.fst) && (decide (List.length x.fst.snd.snd.snd.snd.snd.fst.snd.snd.fst = List.length x.fst.snd.snd.snd.snd.snd.fst.snd.snd.fst) && true)) && (decide (List.length x.fst.snd.snd.snd.snd.snd.snd.fst = List.length x.fst.snd.snd.snd.snd.snd.snd.fst) && (decide (List.length x.fst.snd.snd.snd.snd.snd.snd.snd.fst = List.length x.fst.snd.snd.snd.snd.snd.snd.snd.fst) && (decide (List.length x.fst.snd.snd.snd.snd.snd.snd.snd.snd.snd.snd.snd.snd.snd.snd.snd.snd.fst = List.length x.fst.snd.snd.snd.snd.snd.snd.snd.snd.snd.snd.snd.snd.snd.snd.snd.snd.fst) && true)))) && true then (Option.bind (fn55 x) fun v11 => (bif decide (List.length x.fst.snd.snd.snd.snd.fst = List.length x.fst.snd.snd.snd.snd.fst) && (decide (List.length x.fst.snd.snd.snd.snd.snd.fst.fst = List.length x.fst.snd.snd.snd.snd.snd.fst.fst) && (decide (List.length x.fst.snd.snd.snd.snd.snd.fst.snd.fst = List.length x.fst.snd.snd.snd.snd.snd.fst.snd.fst) && (decide (List.length x.fst.snd.snd.snd.snd.snd.fst.snd.snd.fst = List.length x.fst.snd.snd.snd.snd.snd.fst.snd.snd.fst) && true)) && (decide (List.length x.fst.snd.snd.snd.snd.snd.snd.fst = List.length x.fst.snd.snd.snd.snd.snd.snd.fst) && (decide (List.length x.fst.snd.snd.snd.snd.snd.snd.snd.fst = List.length x.fst.snd.snd.snd.snd.snd.snd.snd.fst) && (decide (List.length x.fst.snd.snd.snd.snd.snd.snd.snd.snd.snd.snd.snd.snd.snd.snd.snd.snd.fst = List.length x.fst.snd.snd.snd.snd.snd.snd.snd.snd.snd.snd.snd.snd.snd.snd.snd.snd.fst) && true)))) && true then (Option.bind (fn56 x) fun v12 => (bif decide (List.length x.fst.snd.snd.snd.snd.fst = List.length x.fst.snd.snd.snd.snd.fst) && (decide (List.length x.fst.snd.snd.snd.snd.snd.fst.fst = List.length x.fst.snd.snd.snd.snd.snd.fst.fst) && (decide (List.length x.fst.snd.snd.snd.snd.snd.fst.snd.fst = List.length x.fst.snd.snd.snd.snd.snd.fst.snd.fst) && (decide (List.length x.fst.snd.snd.snd.snd.snd.fst.snd.snd.fst = List.length x.fst.snd.snd.snd.snd.snd.fst.snd.snd.fst) && true)) && (decide (List.length x.fst.snd.snd.snd.snd.snd.snd.fst = List.length x.fst.snd.snd.snd.snd.snd.snd.fst) && (decide (List.length x.fst.snd.snd.snd.snd.snd.snd.snd.fst = List.length x.fst.snd.snd.snd.snd.snd.snd.snd.fst) && (decide (List.length x.fst.snd.snd.snd.snd.snd.snd.snd.snd.snd.snd.snd.snd.snd.snd.snd.snd.fst = List.length x.fst.snd.snd.snd.snd.snd.snd.snd.snd.snd.snd.snd.snd.snd.snd.snd.snd.fst) && true)))) && true then (Option.bind (fn57 x) fun v13 => some ([v0.fst, v1.fst, v2.fst, v3.fst, v4.fst, v5.fst, v6.fst, v7.fst, v8.fst, v9.fst, v10.fst, v11.fst, v12.fst, v13.fst])) else none)) else none)) else none)) else none)) else none)) else none)) else none)) else none))))))) else none) := by kernel_rfl
  rw [h]
  unfold law25
  simp only [decide_self, decide_true, Nat.zero_add, Bool.and_true, Bool.true_and, cond_true]
noncomputable def fn25 (x : (CarT × Unit)) : Option (List (Int)) := law25 x
theorem reads25 : ReadsF Try.prog 25 [CarSh] (.int .i64) fn25 := (ReadsF.of_code mixed (fn := Try.f25) (c := c25) Try.func25 (by kernel_rfl) (by kernel_rfl) env25 200 (L25_fit)).to (eq25)
noncomputable def s25 : Summ Try.prog := reads25.summ
/- chicane/car.Right$1 -/
noncomputable def c27 : Code := (Try.f27.body.getD .skip)
noncomputable def env27 : Env Try.prog := []
noncomputable def L27 : Loops Try.prog := []
theorem L27_fit : (L27).fit c27 := Loops.fit_nil
noncomputable def law27 (x : (Int × Unit)) : Option ((Bool × Unit)) := some ((x.fst != 0, ()))
theorem eq27 (x : Sh.Ts [Sh.int IntKind.i64]) : codeLaw Try.prog env27 200 (L27) Try.f27 c27 [.int .i64] [.bool] x = law27 x := by kernel_rfl
noncomputable def fn27 (x : (Int × Unit)) : Option ((Bool × Unit)) := law27 x
theorem reads27 : Reads Try.prog 27 [.int .i64] [.bool] fn27 := (Reads.of_code mixed (fn := Try.f27) (c := c27) Try.func27 (by kernel_rfl) (by kernel_rfl) env27 200 (L27_fit) (by kernel_rfl)).to (eq27)
noncomputable def s27 : Summ Try.prog := reads27.summ
/- slices.IndexFunc[[]chicane/api.Errno,chicane/api.Errno] -/
noncomputable def c26x27 : Code := (Try.f26.body.getD .skip)
noncomputable def env26x27 : Env Try.prog := [s27]
noncomputable def b26x27_0 : Code := ((kid ((subAt c26x27 [0, 1, 0, 1]).getD .skip) 0).getD .skip)
noncomputable def kx26x27_0 : Exit → List Nat | .ret => [4] | _ => []
noncomputable def Li26x27_0 (N0 : Nat) : Loops Try.prog := []
noncomputable def ls26x27_0 (N0 : Nat) : LSumm Try.prog := loopSumm mixed env26x27 200 (Li26x27_0 N0) b26x27_0 (Loops.fit_nil) [0, 1, 7, 8] kx26x27_0 (N0)
noncomputable def ln26x27_0 {β : Type} (N0 : Nat) (n : Nat) (t : List AV) (h : Heap) (K : Exit → List AV → Heap → Option β) : Option β := loopN Try.prog env26x27 (Sh.nes [.sl (.int .i64)] + Sh.nes [] + List.length (α := Sh) []) 200 (Li26x27_0 N0) b26x27_0 [0, 1, 7, 8] kx26x27_0 n t h K
noncomputable def L26x27 (N0 : Nat) : Loops Try.prog := [([0, 1, 0, 1], ls26x27_0 N0)]
theorem L26x27_fit (N0 : Nat) : (L26x27 N0).fit c26x27 := Loops.fit_cons (by kernel_rfl) (Loops.fit_nil)
noncomputable def K26x27 : Exit → List AV → Heap → Option (Sh.Ts [.int .i64]) := fun e t h => outK (P := Try.prog) Try.f26 [.int .i64] e t h
noncomputable def rk26x27_0 (N0 : Nat) : Exit → List AV → Heap → Option (Sh.Ts [.int .i64]) := (blkK 0 (seqK Try.prog env26x27 (Sh.nes [.sl (.int .i64)] + Sh.nes [] + List.length (α := Sh) []) 198 (L26x27 N0) [1, 1] ((subAt c26x27 [1, 1]).getD .skip) K26x27))
noncomputable def t26x27_0 (N0 : Nat) (x : Sh.Ts [(Sh.int IntKind.i64).sl]) (i5 : Int) : List AV := [AV.slc 0 0 (List.length x.fst) Cap.low, AV.fn (Fn.func 27) [] [], AV.any, AV.any, AV.any, AV.any, AV.any, AV.val (Value.int IntKind.i64 (↑(List.length x.fst) : Int)), AV.val (Value.int IntKind.i64 i5), AV.any, AV.any, AV.any, AV.any, AV.any, AV.any, AV.any, AV.any, AV.any, AV.any]
noncomputable def h26x27_0 (N0 : Nat) (x : Sh.Ts [(Sh.int IntKind.i64).sl]) (i5 : Int) : Heap := [Ent.live (Blk.mk (Cells.arr (Sh.int IntKind.i64) x.fst) false none)]
noncomputable def tx26x27_0_0 (N0 : Nat) (x : Sh.Ts [(Sh.int IntKind.i64).sl]) (w7 : Int) : List AV := [AV.any, AV.any, AV.any, AV.any, AV.val (Value.int IntKind.i64 w7), AV.any, AV.any, AV.any, AV.any, AV.any, AV.any, AV.any, AV.any, AV.any, AV.any, AV.any, AV.any, AV.any, AV.any]
noncomputable def hx26x27_0_0 (N0 : Nat) (x : Sh.Ts [(Sh.int IntKind.i64).sl]) (w7 : Int) : Heap := [Ent.live (Blk.mk (Cells.arr (Sh.int IntKind.i64) x.fst) false none)]
noncomputable def tx26x27_0_1 (N0 : Nat) (x : Sh.Ts [(Sh.int IntKind.i64).sl]) : List AV := [AV.any, AV.any, AV.any, AV.any, AV.any, AV.any, AV.any, AV.any, AV.any, AV.any, AV.any, AV.any, AV.any, AV.any, AV.any, AV.any, AV.any, AV.any, AV.any]
noncomputable def hx26x27_0_1 (N0 : Nat) (x : Sh.Ts [(Sh.int IntKind.i64).sl]) : Heap := [Ent.live (Blk.mk (Cells.arr (Sh.int IntKind.i64) x.fst) false none)]
noncomputable def law26x27_0 {β : Type} (N0 : Nat) (x : ((List Int) × Unit)) (k0 : Int → Option β) (k1 : Option β) : Nat → Int → Option β
  | 0, _ => none
  | n + 1, i5 => (bif decide (i5 < (↑(List.length x.fst) : Int)) then (bif decide (0 ≤ i5) && decide (i5 < (↑(List.length x.fst) : Int)) then (Option.bind x.fst[i5.toNat]? fun v6 => (bif v6 != 0 then k0 i5 else law26x27_0 N0 x k0 k1 n (IntKind.i64.wrap (i5 + 1)))) else none) else k1)
theorem leq26x27_0 {β : Type} (N0 : Nat) (x : Sh.Ts [(Sh.int IntKind.i64).sl]) (K : Exit → List AV → Heap → Option β) : ∀ (n : Nat) (i5 : Int), ln26x27_0 N0 n (t26x27_0 N0 x i5) (h26x27_0 N0 x i5) K = law26x27_0 N0 x (fun w7 => K (Exit.ret) (tx26x27_0_0 N0 x w7) (hx26x27_0_0 N0 x w7)) (K (Exit.exit 0) (tx26x27_0_1 N0 x) (hx26x27_0_1 N0 x)) n i5
  | 0, _ => rfl
  | n + 1, i5 => by
    have h : ln26x27_0 N0 (n + 1) (t26x27_0 N0 x i5) (h26x27_0 N0 x i5) K = (bif decide (i5 < (↑(List.length x.fst) : Int)) then (bif decide (0 ≤ i5) && decide (i5 < (↑(List.length x.fst) : Int)) then (Option.bind (x.fst[0 + i5.toNat]?) fun v6 => (bif v6 != 0 then K (Exit.ret) (tx26x27_0_0 N0 x i5) (hx26x27_0_0 N0 x i5) else ln26x27_0 N0 n (t26x27_0 N0 x (IntKind.i64.wrap (i5 + 1))) (h26x27_0 N0 x (IntKind.i64.wrap (i5 + 1))) K)) else none) else K (Exit.exit 0) (tx26x27_0_1 N0 x) (hx26x27_0_1 N0 x)) := by kernel_rfl
    rw [h]
    simp only [decide_self, decide_true, Nat.zero_add, Bool.and_true, Bool.true_and, cond_true, law26x27_0, leq26x27_0 N0 x K n]
theorem rest26x27_0_0 (N0 : Nat) (x : Sh.Ts [(Sh.int IntKind.i64).sl]) (w8 : Int) : rk26x27_0 N0 (Exit.ret) (tx26x27_0_0 N0 x w8) (hx26x27_0_0 N0 x w8) = some ((w8, ())) := by kernel_rfl
theorem rest26x27_0_1 (N0 : Nat) (x : Sh.Ts [(Sh.int IntKind.i64).sl]) : rk26x27_0 N0 (Exit.exit 0) (tx26x27_0_1 N0 x) (hx26x27_0_1 N0 x) = some ((-1, ())) := by kernel_rfl
noncomputable def law26x27 (N0 : Nat) (x : ((List Int) × Unit)) (xs : (Unit)) : Option ((Int × Unit)) := (law26x27_0 N0 x (fun w8 => some ((w8, ()))) (some ((-1, ()))) N0 0)
theorem eq26x27 (N0 : Nat) (x : Sh.Ts [(Sh.int IntKind.i64).sl]) (xs : Sh.Ts []) : codeLawC Try.prog env26x27 200 (L26x27 N0) Try.f26 c26x27 [.sl (.int .i64)] 27 [] [.int .i64] x xs = law26x27 N0 x xs := by
  have h : codeLawC Try.prog env26x27 200 (L26x27 N0) Try.f26 c26x27 [.sl (.int .i64)] 27 [] [.int .i64] x xs = (ln26x27_0 N0 N0 (t26x27_0 N0 x 0) (h26x27_0 N0 x 0) (rk26x27_0 N0)) := by kernel_rfl
  rw [h]
  unfold law26x27
  simp only [decide_self, decide_true, Nat.zero_add, Bool.and_true, Bool.true_and, cond_true, leq26x27_0, rest26x27_0_0, rest26x27_0_1]
noncomputable def fn26x27 (x : ((List Int) × Unit)) (xs : (Unit)) : Option ((Int × Unit)) := law26x27 (10 ^ 30) x xs
theorem reads26x27 : ReadsC Try.prog 26 [.sl (.int .i64)] 27 [] [.int .i64] fn26x27 := (ReadsC.of_code mixed (fn := Try.f26) (c := c26x27) Try.func26 (by kernel_rfl) (by kernel_rfl) env26x27 200 (L26x27_fit _) (by kernel_rfl)).to (eq26x27 _)
noncomputable def s26x27 : Summ Try.prog := reads26x27.summ (by kernel_rfl)
noncomputable def s26 : Summ Try.prog := s26x27
/- chicane/car.Right -/
noncomputable def c11 : Code := (Try.f11.body.getD .skip)
noncomputable def env11 : Env Try.prog := [s25, s26, s27]
noncomputable def L11 : Loops Try.prog := []
theorem L11_fit : (L11).fit c11 := Loops.fit_nil
noncomputable def law11 (x : (CarT × Unit)) : Option ((Int × Int × Unit)) := (Option.bind (fn25 x) fun v0 => (Option.bind (fn26x27 (v0, ()) ()) fun v1 => (bif decide (v1.fst < 0) then some ((0, 0, ())) else (bif decide (0 ≤ v1.fst) && decide (v1.fst < (↑v0.length : Int)) then (Option.bind (v0[Int.toNat v1.fst]?) fun v2 => some ((v2, v1.fst, ()))) else none))))
theorem eq11 (x : Sh.Ts [CarSh]) : codeLaw Try.prog env11 200 (L11) Try.f11 c11 [CarSh] [.int .i64, .int .i64] x = law11 x := by
  have h : codeLaw Try.prog env11 200 (L11) Try.f11 c11 [CarSh] [.int .i64, .int .i64] x = (bif decide (List.length x.fst.snd.snd.snd.snd.fst = List.length x.fst.snd.snd.snd.snd.fst) && (decide (List.length x.fst.snd.snd.snd.snd.snd.fst.fst = List.length x.fst.snd.snd.snd.snd.snd.fst.fst) && (decide (List.length x.fst.snd.snd.snd.snd.snd.fst.snd.fst = List.length x.fst.snd.snd.snd.snd.snd.fst.snd.fst) && (decide (List.length x.fst.snd.snd.snd.snd.snd.fst.snd.snd.fst = List.length x.fst.snd.snd.snd.snd.snd.fst.snd.snd.fst) && true)) && (decide (List.length x.fst.snd.snd.snd.snd.snd.snd.fst = List.length x.fst.snd.snd.snd.snd.snd.snd.fst) && (decide (List.length x.fst.snd.snd.snd.snd.snd.snd.snd.fst = List.length x.fst.snd.snd.snd.snd.snd.snd.snd.fst) && (decide (List.length x.fst.snd.snd.snd.snd.snd.snd.snd.snd.snd.snd.snd.snd.snd.snd.snd.snd.fst = List.length x.fst.snd.snd.snd.snd.snd.snd.snd.snd.snd.snd.snd.snd.snd.snd.snd.snd.fst) && true)))) && true then (Option.bind (fn25 x) fun v0 => (bif decide (v0.length = v0.length) && true && true then (Option.bind (fn26x27 (v0, ()) ()) fun v1 => (bif decide (v1.fst < 0) then some ((0, 0, ())) else (bif decide (0 ≤ v1.fst) && decide (v1.fst < (↑v0.length : Int)) then (Option.bind (v0[0 + Int.toNat v1.fst]?) fun v2 => some ((v2, v1.fst, ()))) else none))) else none)) else none) := by kernel_rfl
  rw [h]
  unfold law11
  simp only [decide_self, decide_true, Nat.zero_add, Bool.and_true, Bool.true_and, cond_true]
noncomputable def fn11 (x : (CarT × Unit)) : Option ((Int × Int × Unit)) := law11 x
theorem reads11 : Reads Try.prog 11 [CarSh] [.int .i64, .int .i64] fn11 := (Reads.of_code mixed (fn := Try.f11) (c := c11) Try.func11 (by kernel_rfl) (by kernel_rfl) env11 200 (L11_fit) (by kernel_rfl)).to (eq11)
noncomputable def s11 : Summ Try.prog := reads11.summ
/- chicane/chicanelaw24.in -/
noncomputable def c12 : Code := (Try.f12.body.getD .skip)
noncomputable def env12 : Env Try.prog := []
noncomputable def L12 : Loops Try.prog := []
theorem L12_fit : (L12).fit c12 := Loops.fit_nil
noncomputable def law12 (x : (Int × Int × Unit)) : Option ((Bool × Unit)) := (bif decide (x.fst ≤ x.snd.fst) then some ((decide (x.fst ≥ IntKind.i64.wrap (0 - x.snd.fst)), ())) else some ((false, ())))
theorem eq12 (x : Sh.Ts [Sh.int IntKind.i64, Sh.int IntKind.i64]) : codeLaw Try.prog env12 200 (L12) Try.f12 c12 [.int .i64, .int .i64] [.bool] x = law12 x := by kernel_rfl
noncomputable def fn12 (x : (Int × Int × Unit)) : Option ((Bool × Unit)) := law12 x
theorem reads12 : Reads Try.prog 12 [.int .i64, .int .i64] [.bool] fn12 := (Reads.of_code mixed (fn := Try.f12) (c := c12) Try.func12 (by kernel_rfl) (by kernel_rfl) env12 200 (L12_fit) (by kernel_rfl)).to (eq12)
noncomputable def s12 : Summ Try.prog := reads12.summ
/- chicane/chicanelaw24.BrakeFits -/
noncomputable def c5 : Code := (Try.f5.body.getD .skip)
noncomputable def env5 : Env Try.prog := [s8, s11, s12, s7, s13, s9]
noncomputable def L5 : Loops Try.prog := []
theorem L5_fit : (L5).fit c5 := Loops.fit_nil
noncomputable def law5 (x : (CarT × Int × (Int × Int × Int × Int × Int × Unit) × Unit)) : Option ((Bool × Unit)) := (Option.bind (fn8 (x.fst, ())) fun v0 => (bif !v0.fst then some ((true, ())) else (Option.bind (fn11 (x.fst, ())) fun v1 => (bif v1.fst != 0 then some ((true, ())) else (bif decide (x.snd.fst < 0) then some ((true, ())) else (bif decide (x.snd.fst > 3) then some ((true, ())) else (Option.bind (fn12 (x.snd.snd.fst.fst, 17592186044416, ())) fun v2 => (bif !v2.fst then some ((true, ())) else (Option.bind (fn12 (x.snd.snd.fst.snd.fst, 36028797018963968, ())) fun v3 => (bif !v3.fst then some ((true, ())) else (Option.bind (fn12 (x.snd.snd.fst.snd.snd.fst, 9007199254740992, ())) fun v4 => (bif !v4.fst then some ((true, ())) else (bif decide (x.snd.snd.fst.snd.snd.snd.fst < 0) then some ((true, ())) else (bif decide (x.snd.snd.fst.snd.snd.snd.fst > 4294967296) then some ((true, ())) else (bif decide (x.snd.snd.fst.snd.snd.snd.snd.fst < 0) then some ((true, ())) else (bif decide (x.snd.snd.fst.snd.snd.snd.snd.fst > 71582788) then some ((true, ())) else (Option.bind (fn20 (false, ()) (x.fst.snd.snd.snd.snd.snd.snd.snd.snd.snd.snd.snd.snd.snd.snd.snd.snd.snd.snd.snd.snd.snd.fst, x.snd.snd.fst.snd.snd.snd.fst, ())) fun v5 => (bif decide (x.snd.fst < 0) then (Option.bind (fn16 v5.fst (4294967296, x.fst.snd.snd.snd.snd.snd.snd.snd.snd.snd.snd.snd.snd.snd.snd.snd.snd.snd.snd.snd.snd.snd.snd.fst, ())) fun v6 => (Option.bind (fn20 v6.fst (v5.snd.fst, v6.snd)) fun v7 => (Option.bind (fn20 v7.fst (v7.snd.fst, 2147483648, ())) fun v8 => (Option.bind (fn9 v8.fst (x.fst, x.snd.fst, x.snd.snd.fst.fst, x.snd.snd.fst.snd.fst, x.snd.snd.fst.snd.snd.fst, v8.snd.fst, x.snd.snd.fst.snd.snd.snd.snd)) fun v9 => (bif !v9.fst.fst then (Option.bind (fn12 (v9.snd.fst, 17592186044416, ())) fun v10 => (bif v10.fst then some ((true, ())) else some ((false, ())))) else some ((false, ()))))))) else (bif decide (x.snd.fst > 1) then (Option.bind (fn16 v5.fst (4294967296, x.fst.snd.snd.snd.snd.snd.snd.snd.snd.snd.snd.snd.snd.snd.snd.snd.snd.snd.snd.snd.snd.snd.snd.fst, ())) fun v11 => (Option.bind (fn20 v11.fst (v5.snd.fst, v11.snd)) fun v12 => (Option.bind (fn20 v12.fst (v12.snd.fst, 2147483648, ())) fun v13 => (Option.bind (fn9 v13.fst (x.fst, x.snd.fst, x.snd.snd.fst.fst, x.snd.snd.fst.snd.fst, x.snd.snd.fst.snd.snd.fst, v13.snd.fst, x.snd.snd.fst.snd.snd.snd.snd)) fun v14 => (bif !v14.fst.fst then (Option.bind (fn12 (v14.snd.fst, 17592186044416, ())) fun v15 => (bif v15.fst then some ((true, ())) else some ((false, ())))) else some ((false, ()))))))) else (Option.bind (fn20 v5.fst (v5.snd.fst, x.fst.snd.snd.snd.snd.snd.snd.snd.snd.snd.snd.snd.snd.snd.snd.snd.snd.snd.snd.snd.snd.snd.snd.fst, ())) fun v16 => (Option.bind (fn20 v16.fst (v16.snd.fst, 2147483648, ())) fun v17 => (Option.bind (fn9 v17.fst (x.fst, x.snd.fst, x.snd.snd.fst.fst, x.snd.snd.fst.snd.fst, x.snd.snd.fst.snd.snd.fst, v17.snd.fst, x.snd.snd.fst.snd.snd.snd.snd)) fun v18 => (bif !v18.fst.fst then (Option.bind (fn12 (v18.snd.fst, 17592186044416, ())) fun v19 => (bif v19.fst then some ((true, ())) else some ((false, ())))) else some ((false, ())))))))))))))))))))))))))
theorem eq5 (x : Sh.Ts [CarSh, Sh.int IntKind.i64, Sh.st [Sh.int IntKind.i64, Sh.int IntKind.i64, Sh.int IntKind.i64, Sh.int IntKind.i64, Sh.int IntKind.i64]]) : codeLaw Try.prog env5 200 (L5) Try.f5 c5 [CarSh, .int .i64, .st [.int .i64, .int .i64, .int .i64, .int .i64, .int .i64]] [.bool] x = law5 x := by
  have h : codeLaw Try.prog env5 200 (L5) Try.f5 c5 [CarSh, .int .i64, .st [.int .i64, .int .i64, .int .i64, .int .i64, .int .i64]] [.bool] x = (bif decide (List.length x.fst.snd.snd.snd.snd.fst = List.length x.fst.snd.snd.snd.snd.fst) && (decide (List.length x.fst.snd.snd.snd.snd.snd.fst.fst = List.length x.fst.snd.snd.snd.snd.snd.fst.fst) && (decide (List.length x.fst.snd.snd.snd.snd.snd.fst.snd.fst = List.length x.fst.snd.snd.snd.snd.snd.fst.snd.fst) && (decide (List.length x.fst.snd.snd.snd.snd.snd.fst.snd.snd.fst = List.length x.fst.snd.snd.snd.snd.snd.fst.snd.snd.fst) && true)) && (decide (List.length x.fst.snd.snd.snd.snd.snd.snd.fst = List.length x.fst.snd.snd.snd.snd.snd.snd.fst) && (decide (List.length x.fst.snd.snd.snd.snd.snd.snd.snd.fst = List.length x.fst.snd.snd.snd.snd.snd.snd.snd.fst) && (decide (List.length x.fst.snd.snd.snd.snd.snd.snd.snd.snd.snd.snd.snd.snd.snd.snd.snd.snd.fst = List.length x.fst.snd.snd.snd.snd.snd.snd.snd.snd.snd.snd.snd.snd.snd.snd.snd.snd.fst) && true)))) && true then (Option.bind (fn8 (x.fst, ())) fun v0 => (bif !v0.fst then some ((true, ())) else (bif decide (List.length x.fst.snd.snd.snd.snd.fst = List.length x.fst.snd.snd.snd.snd.fst) && (decide (List.length x.fst.snd.snd.snd.snd.snd.fst.fst = List.length x.fst.snd.snd.snd.snd.snd.fst.fst) && (decide (List.length x.fst.snd.snd.snd.snd.snd.fst.snd.fst = List.length x.fst.snd.snd.snd.snd.snd.fst.snd.fst) && (decide (List.length x.fst.snd.snd.snd.snd.snd.fst.snd.snd.fst = List.length x.fst.snd.snd.snd.snd.snd.fst.snd.snd.fst) && true)) && (decide (List.length x.fst.snd.snd.snd.snd.snd.snd.fst = List.length x.fst.snd.snd.snd.snd.snd.snd.fst) && (decide (List.length x.fst.snd.snd.snd.snd.snd.snd.snd.fst = List.length x.fst.snd.snd.snd.snd.snd.snd.snd.fst) && (decide (List.length x.fst.snd.snd.snd.snd.snd.snd.snd.snd.snd.snd.snd.snd.snd.snd.snd.snd.fst = List.length x.fst.snd.snd.snd.snd.snd.snd.snd.snd.snd.snd.snd.snd.snd.snd.snd.snd.fst) && true)))) && true then (Option.bind (fn11 (x.fst, ())) fun v1 => (bif v1.fst != 0 then some ((true, ())) else (bif decide (x.snd.fst < 0) then some ((true, ())) else (bif decide (x.snd.fst > 3) then some ((true, ())) else (Option.bind (fn12 (x.snd.snd.fst.fst, 17592186044416, ())) fun v2 => (bif !v2.fst then some ((true, ())) else (Option.bind (fn12 (x.snd.snd.fst.snd.fst, 36028797018963968, ())) fun v3 => (bif !v3.fst then some ((true, ())) else (Option.bind (fn12 (x.snd.snd.fst.snd.snd.fst, 9007199254740992, ())) fun v4 => (bif !v4.fst then some ((true, ())) else (bif decide (x.snd.snd.fst.snd.snd.snd.fst < 0) then some ((true, ())) else (bif decide (x.snd.snd.fst.snd.snd.snd.fst > 4294967296) then some ((true, ())) else (bif decide (x.snd.snd.fst.snd.snd.snd.snd.fst < 0) then some ((true, ())) else (bif decide (x.snd.snd.fst.snd.snd.snd.snd.fst > 71582788) then some ((true, ())) else (Option.bind (fn20 (false, ()) (x.fst.snd.snd.snd.snd.snd.snd.snd.snd.snd.snd.snd.snd.snd.snd.snd.snd.snd.snd.snd.snd.snd.fst, x.snd.snd.fst.snd.snd.snd.fst, ())) fun v5 => (bif decide (x.snd.fst < 0) then (Option.bind (fn16 v5.fst (4294967296, x.fst.snd.snd.snd.snd.snd.snd.snd.snd.snd.snd.snd.snd.snd.snd.snd.snd.snd.snd.snd.snd.snd.snd.fst, ())) fun v6 => (Option.bind (fn20 v6.fst (v5.snd.fst, v6.snd)) fun v7 => (Option.bind (fn20 v7.fst (v7.snd.fst, 2147483648, ())) fun v8 => (bif decide (List.length x.fst.snd.snd.snd.snd.fst = List.length x.fst.snd.snd.snd.snd.fst) && (decide (List.length x.fst.snd.snd.snd.snd.snd.fst.fst = List.length x.fst.snd.snd.snd.snd.snd.fst.fst) && (decide (List.length x.fst.snd.snd.snd.snd.snd.fst.snd.fst = List.length x.fst.snd.snd.snd.snd.snd.fst.snd.fst) && (decide (List.length x.fst.snd.snd.snd.snd.snd.fst.snd.snd.fst = List.length x.fst.snd.snd.snd.snd.snd.fst.snd.snd.fst) && true)) && (decide (List.length x.fst.snd.snd.snd.snd.snd.snd.fst = List.length x.fst.snd.snd.snd.snd.snd.snd.fst) && (decide (List.length x.fst.snd.snd.snd.snd.snd.snd.snd.fst = List.length x.fst.snd.snd.snd.snd.snd.snd.snd.fst) && (decide (List.length x.fst.snd.snd.snd.snd.snd.snd.snd.snd.snd.snd.snd.snd.snd.snd.snd.snd.fst = List.length x.fst.snd.snd.snd.snd.snd.snd.snd.snd.snd.snd.snd.snd.snd.snd.snd.snd.fst) && true)))) && true then (Option.bind (fn9 v8.fst (x.fst, x.snd.fst, x.snd.snd.fst.fst, x.snd.snd.fst.snd.fst, x.snd.snd.fst.snd.snd.fst, v8.snd.fst, x.snd.snd.fst.snd.snd.snd.snd)) fun v9 => (bif !v9.fst.fst then (Option.bind (fn12 (v9.snd.fst, 17592186044416, ())) fun v10 => (bif v10.fst then some ((true, ())) else some ((false, ())))) else some ((false, ())))) else none)))) else (bif decide (x.snd.fst > 1) then (Option.bind (fn16 v5.fst (4294967296, x.fst.snd.snd.snd.snd.snd.snd.snd.snd.snd.snd.snd.snd.snd.snd.snd.snd.snd.snd.snd.snd.snd.snd.fst, ())) fun v11 => (Option.bind (fn20 v11.fst (v5.snd.fst, v11.snd)) fun v12 => (Option.bind (fn20 v12.fst (v12.snd.fst, 2147483648, ())) fun v13 => (bif decide (List.length x.fst.snd.snd.snd.snd.fst = List.length x.fst.snd.snd.snd.snd.fst) && (decide (List.length x.fst.snd.snd.snd.snd.snd.fst.fst = List.length x.fst.snd.snd.snd.snd.snd.fst.fst) && (decide (List.length x.fst.snd.snd.snd.snd.snd.fst.snd.fst = List.length x.fst.snd.snd.snd.snd.snd.fst.snd.fst) && (decide (List.length x.fst.snd.snd.snd.snd.snd.fst.snd.snd.fst = List.length x.fst.snd.snd.snd.snd.snd.fst.snd.snd.fst) && true)) && (decide (List.length x.fst.snd.snd.snd.snd.snd.snd.fst = List.length x.fst.snd.snd.snd.snd.snd.snd.fst) && (decide (List.length x.fst.snd.snd.snd.snd.snd.snd.snd.fst = List.length x.fst.snd.snd.snd.snd.snd.snd.snd.fst) && (decide (List.length x.fst.snd.snd.snd.snd.snd.snd.snd.snd.snd.snd.snd.snd.snd.snd.snd.snd.fst = List.length x.fst.snd.snd.snd.snd.snd.snd.snd.snd.snd.snd.snd.snd.snd.snd.snd.snd.fst) && true)))) && true then (Option.bind (fn9 v13.fst (x.fst, x.snd.fst, x.snd.snd.fst.fst, x.snd.snd.fst.snd.fst, x.snd.snd.fst.snd.snd.fst, v13.snd.fst, x.snd.snd.fst.snd.snd.snd.snd)) fun v14 => (bif !v14.fst.fst then (Option.bind (fn12 (v14.snd.fst, 17592186044416, ())) fun v15 => (bif v15.fst then some ((true, ())) else some ((false, ())))) else some ((false, ())))) else none)))) else (Option.bind (fn20 v5.fst (v5.snd.fst, x.fst.snd.snd.snd.snd.snd.snd.snd.snd.snd.snd.snd.snd.snd.snd.snd.snd.snd.snd.snd.snd.snd.snd.fst, ())) fun v16 => (Option.bind (fn20 v16.fst (v16.snd.fst, 2147483648, ())) fun v17 => (bif decide (List.length x.fst.snd.snd.snd.snd.fst = List.length x.fst.snd.snd.snd.snd.fst) && (decide (List.length x.fst.snd.snd.snd.snd.snd.fst.fst = List.length x.fst.snd.snd.snd.snd.snd.fst.fst) && (decide (List.length x.fst.snd.snd.snd.snd.snd.fst.snd.fst = List.length x.fst.snd.snd.snd.snd.snd.fst.snd.fst) && (decide (List.length x.fst.snd.snd.snd.snd.snd.fst.snd.snd.fst = List.length x.fst.snd.snd.snd.snd.snd.fst.snd.snd.fst) && true)) && (decide (List.length x.fst.snd.snd.snd.snd.snd.snd.fst = List.length x.fst.snd.snd.snd.snd.snd.snd.fst) && (decide (List.length x.fst.snd.snd.snd.snd.snd.snd.snd.fst = List.length x.fst.snd.snd.snd.snd.snd.snd.snd.fst) && (decide (List.length x.fst.snd.snd.snd.snd.snd.snd.snd.snd.snd.snd.snd.snd.snd.snd.snd.snd.fst = List.length x.fst.snd.snd.snd.snd.snd.snd.snd.snd.snd.snd.snd.snd.snd.snd.snd.snd.fst) && true)))) && true then (Option.bind (fn9 v17.fst (x.fst, x.snd.fst, x.snd.snd.fst.fst, x.snd.snd.fst.snd.fst, x.snd.snd.fst.snd.snd.fst, v17.snd.fst, x.snd.snd.fst.snd.snd.snd.snd)) fun v18 => (bif !v18.fst.fst then (Option.bind (fn12 (v18.snd.fst, 17592186044416, ())) fun v19 => (bif v19.fst then some ((true, ())) else some ((false, ())))) else some ((false, ())))) else none)))))))))))))))))))) else none))) else none) := by kernel_rfl
  rw [h]
  unfold law5
  simp only [decide_self, decide_true, Nat.zero_add, Bool.and_true, Bool.true_and, cond_true]
noncomputable def fn5 (x : (CarT × Int × (Int × Int × Int × Int × Int × Unit) × Unit)) : Option ((Bool × Unit)) := law5 x
theorem reads5 : Reads Try.prog 5 [CarSh, .int .i64, .st [.int .i64, .int .i64, .int .i64, .int .i64, .int .i64]] [.bool] fn5 := (Reads.of_code mixed (fn := Try.f5) (c := c5) Try.func5 (by kernel_rfl) (by kernel_rfl) env5 200 (L5_fit) (by kernel_rfl)).to (eq5)
noncomputable def s5 : Summ Try.prog := reads5.summ
end Go.Proofs.Ytiikkepnpidilaa
