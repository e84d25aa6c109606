/- What functions of this program tell of their arguments: for each a law, and that the function keeps to it. -/
import Derived.Test.YtkcmgjbonmalmaaBase
set_option linter.unusedVariables false
set_option linter.unusedSimpArgs false
set_option maxRecDepth 100000
namespace Go.Proofs.Ytkcmgjbonmalmaa
open Go Go.Ab Go.Proofs
/- chicane/car.ranged$1 -/
noncomputable def c33 : Code := (Try.f33.body.getD .skip)
noncomputable def env33 : Env Try.prog := []
noncomputable def L33 : Loops Try.prog := []
theorem L33_fit : (L33).fit c33 := Loops.fit_nil
noncomputable def law33 (x : (boundT × Unit)) : Option ((Bool × Unit)) := (bif decide (x.fst.fst < x.fst.snd.fst) then some ((true, ())) else some ((decide (x.fst.fst > x.fst.snd.snd.fst), ())))
theorem eq33 (x : Sh.Ts [boundSh]) : codeLaw Try.prog env33 200 (L33) Try.f33 c33 [boundSh] [.bool] x = law33 x := by kernel_rfl
noncomputable def fn33 (x : (boundT × Unit)) : Option ((Bool × Unit)) := law33 x
theorem reads33 : Reads Try.prog 33 [boundSh] [.bool] fn33 := (Reads.of_code mixed (fn := Try.f33) (c := c33) Try.func33 (by kernel_rfl) (by kernel_rfl) env33 200 (L33_fit) (by kernel_rfl)).to (eq33)
noncomputable def s33 : Summ Try.prog := reads33.summ
/- slices.IndexFunc[[]chicane/car.bound,chicane/car.bound] -/
noncomputable def c40x33 : Code := (Try.f40.body.getD .skip)
noncomputable def env40x33 : Env Try.prog := [s33]
noncomputable def b40x33_0 : Code := ((kid ((subAt c40x33 [0, 1, 0, 1]).getD .skip) 0).getD .skip)
noncomputable def kx40x33_0 : Exit → List Nat | .ret => [4] | _ => []
noncomputable def Li40x33_0 (N0 : Nat) : Loops Try.prog := []
noncomputable def ls40x33_0 (N0 : Nat) : LSumm Try.prog := loopSumm mixed env40x33 200 (Li40x33_0 N0) b40x33_0 (Loops.fit_nil) [0, 1, 7, 8] kx40x33_0 (N0)
noncomputable def ln40x33_0 {β : Type} (N0 : Nat) (n : Nat) (t : List AV) (h : Heap) (K : Exit → List AV → Heap → Option β) : Option β := loopN Try.prog env40x33 (Sh.nes [.sl (boundSh)] + Sh.nes [] + List.length (α := Sh) []) 200 (Li40x33_0 N0) b40x33_0 [0, 1, 7, 8] kx40x33_0 n t h K
noncomputable def L40x33 (N0 : Nat) : Loops Try.prog := [([0, 1, 0, 1], ls40x33_0 N0)]
theorem L40x33_fit (N0 : Nat) : (L40x33 N0).fit c40x33 := Loops.fit_cons (by kernel_rfl) (Loops.fit_nil)
noncomputable def K40x33 : Exit → List AV → Heap → Option (Sh.Ts [.int .i64]) := fun e t h => outK (P := Try.prog) Try.f40 [.int .i64] e t h
noncomputable def rk40x33_0 (N0 : Nat) : Exit → List AV → Heap → Option (Sh.Ts [.int .i64]) := (blkK 0 (seqK Try.prog env40x33 (Sh.nes [.sl (boundSh)] + Sh.nes [] + List.length (α := Sh) []) 198 (L40x33 N0) [1, 1] ((subAt c40x33 [1, 1]).getD .skip) K40x33))
noncomputable def t40x33_0 (N0 : Nat) (x : Sh.Ts [boundSh.sl]) (i6 : Int) : List AV := [AV.slc 0 0 (List.length x.fst) Cap.low, AV.fn (Fn.func 33) [] [], AV.any, AV.any, AV.any, AV.any, AV.any, AV.val (Value.int IntKind.i64 (↑(List.length x.fst) : Int)), AV.val (Value.int IntKind.i64 i6), AV.any, AV.any, AV.any, AV.any, AV.any, AV.any, AV.any, AV.any, AV.any, AV.any]
noncomputable def h40x33_0 (N0 : Nat) (x : Sh.Ts [boundSh.sl]) (i6 : Int) : Heap := [Ent.live (Blk.mk (Cells.arr (Sh.st [Sh.int IntKind.i64, Sh.int IntKind.i64, Sh.int IntKind.i64]) x.fst) false none)]
noncomputable def tx40x33_0_0 (N0 : Nat) (x : Sh.Ts [boundSh.sl]) (w9 : Int) : List AV := [AV.any, AV.any, AV.any, AV.any, AV.val (Value.int IntKind.i64 w9), AV.any, AV.any, AV.any, AV.any, AV.any, AV.any, AV.any, AV.any, AV.any, AV.any, AV.any, AV.any, AV.any, AV.any]
noncomputable def hx40x33_0_0 (N0 : Nat) (x : Sh.Ts [boundSh.sl]) (w9 : Int) : Heap := [Ent.live (Blk.mk (Cells.arr (Sh.st [Sh.int IntKind.i64, Sh.int IntKind.i64, Sh.int IntKind.i64]) x.fst) false none)]
noncomputable def tx40x33_0_1 (N0 : Nat) (x : Sh.Ts [boundSh.sl]) : List AV := [AV.any, AV.any, AV.any, AV.any, AV.any, AV.any, AV.any, AV.any, AV.any, AV.any, AV.any, AV.any, AV.any, AV.any, AV.any, AV.any, AV.any, AV.any, AV.any]
noncomputable def hx40x33_0_1 (N0 : Nat) (x : Sh.Ts [boundSh.sl]) : Heap := [Ent.live (Blk.mk (Cells.arr (Sh.st [Sh.int IntKind.i64, Sh.int IntKind.i64, Sh.int IntKind.i64]) x.fst) false none)]
noncomputable def law40x33_0 {β : Type} (N0 : Nat) (x : ((List boundT) × Unit)) (k0 : Int → Option β) (k1 : Option β) : Nat → Int → Option β
  | 0, _ => none
  | n + 1, i6 => (bif decide (i6 < (↑(List.length x.fst) : Int)) then (bif decide (0 ≤ i6) && decide (i6 < (↑(List.length x.fst) : Int)) then (Option.bind x.fst[i6.toNat]? fun v7 => (Option.bind (fn33 (v7, ())) fun v8 => (bif v8.fst then k0 i6 else law40x33_0 N0 x k0 k1 n (IntKind.i64.wrap (i6 + 1))))) else none) else k1)
theorem leq40x33_0 {β : Type} (N0 : Nat) (x : Sh.Ts [boundSh.sl]) (K : Exit → List AV → Heap → Option β) : ∀ (n : Nat) (i6 : Int), ln40x33_0 N0 n (t40x33_0 N0 x i6) (h40x33_0 N0 x i6) K = law40x33_0 N0 x (fun w9 => K (Exit.ret) (tx40x33_0_0 N0 x w9) (hx40x33_0_0 N0 x w9)) (K (Exit.exit 0) (tx40x33_0_1 N0 x) (hx40x33_0_1 N0 x)) n i6
  | 0, _ => rfl
  | n + 1, i6 => by
    have h : ln40x33_0 N0 (n + 1) (t40x33_0 N0 x i6) (h40x33_0 N0 x i6) K = (bif decide (i6 < (↑(List.length x.fst) : Int)) then (bif decide (0 ≤ i6) && decide (i6 < (↑(List.length x.fst) : Int)) then (Option.bind x.fst[i6.toNat]? fun v7 => (Option.bind (fn33 (v7, ())) fun v8 => (bif v8.fst then K (Exit.ret) (tx40x33_0_0 N0 x i6) (hx40x33_0_0 N0 x i6) else ln40x33_0 N0 n (t40x33_0 N0 x (IntKind.i64.wrap (i6 + 1))) (h40x33_0 N0 x (IntKind.i64.wrap (i6 + 1))) K))) else none) else K (Exit.exit 0) (tx40x33_0_1 N0 x) (hx40x33_0_1 N0 x)) := by kernel_rfl
    rw [h]
    simp only [decide_self, decide_true, Nat.zero_add, Bool.and_true, Bool.true_and, cond_true, law40x33_0, leq40x33_0 N0 x K n]
theorem rest40x33_0_0 (N0 : Nat) (x : Sh.Ts [boundSh.sl]) (w10 : Int) : rk40x33_0 N0 (Exit.ret) (tx40x33_0_0 N0 x w10) (hx40x33_0_0 N0 x w10) = some ((w10, ())) := by kernel_rfl
theorem rest40x33_0_1 (N0 : Nat) (x : Sh.Ts [boundSh.sl]) : rk40x33_0 N0 (Exit.exit 0) (tx40x33_0_1 N0 x) (hx40x33_0_1 N0 x) = some ((-1, ())) := by kernel_rfl
noncomputable def law40x33 (N0 : Nat) (x : ((List boundT) × Unit)) (xs : (Unit)) : Option ((Int × Unit)) := (law40x33_0 N0 x (fun w10 => some ((w10, ()))) (some ((-1, ()))) N0 0)
theorem eq40x33 (N0 : Nat) (x : Sh.Ts [boundSh.sl]) (xs : Sh.Ts []) : codeLawC Try.prog env40x33 200 (L40x33 N0) Try.f40 c40x33 [.sl (boundSh)] 33 [] [.int .i64] x xs = law40x33 N0 x xs := by
  have h : codeLawC Try.prog env40x33 200 (L40x33 N0) Try.f40 c40x33 [.sl (boundSh)] 33 [] [.int .i64] x xs = (ln40x33_0 N0 N0 (t40x33_0 N0 x 0) (h40x33_0 N0 x 0) (rk40x33_0 N0)) := by kernel_rfl
  rw [h]
  unfold law40x33
  simp only [decide_self, decide_true, Nat.zero_add, Bool.and_true, Bool.true_and, cond_true, leq40x33_0, rest40x33_0_0, rest40x33_0_1]
noncomputable def fn40x33 (x : ((List boundT) × Unit)) (xs : (Unit)) : Option ((Int × Unit)) := law40x33 (10 ^ 30) x xs
theorem reads40x33 : ReadsC Try.prog 40 [.sl (boundSh)] 33 [] [.int .i64] fn40x33 := (ReadsC.of_code mixed (fn := Try.f40) (c := c40x33) Try.func40 (by kernel_rfl) (by kernel_rfl) env40x33 200 (L40x33_fit _) (by kernel_rfl)).to (eq40x33 _)
noncomputable def s40x33 : Summ Try.prog := reads40x33.summ (by kernel_rfl)
noncomputable def s40 : Summ Try.prog := s40x33
/- slices.ContainsFunc[[]chicane/car.bound,chicane/car.bound] -/
noncomputable def c34x33 : Code := (Try.f34.body.getD .skip)
noncomputable def env34x33 : Env Try.prog := [s40]
noncomputable def L34x33 : Loops Try.prog := []
theorem L34x33_fit : (L34x33).fit c34x33 := Loops.fit_nil
noncomputable def law34x33 (x : ((List boundT) × Unit)) (xs : (Unit)) : Option ((Bool × Unit)) := (Option.bind (fn40x33 x ()) fun v0 => some ((decide (v0.fst ≥ 0), ())))
theorem eq34x33 (x : Sh.Ts [boundSh.sl]) (xs : Sh.Ts []) : codeLawC Try.prog env34x33 200 (L34x33) Try.f34 c34x33 [.sl (boundSh)] 33 [] [.bool] x xs = law34x33 x xs := by
  have h : codeLawC Try.prog env34x33 200 (L34x33) Try.f34 c34x33 [.sl (boundSh)] 33 [] [.bool] x xs = (bif decide (List.length x.fst = List.length x.fst) && true && true then (Option.bind (fn40x33 x ()) fun v0 => some ((decide (v0.fst ≥ 0), ()))) else none) := by kernel_rfl
  rw [h]
  unfold law34x33
  simp only [decide_self, decide_true, Nat.zero_add, Bool.and_true, Bool.true_and, cond_true]
noncomputable def fn34x33 (x : ((List boundT) × Unit)) (xs : (Unit)) : Option ((Bool × Unit)) := law34x33 x xs
theorem reads34x33 : ReadsC Try.prog 34 [.sl (boundSh)] 33 [] [.bool] fn34x33 := (ReadsC.of_code mixed (fn := Try.f34) (c := c34x33) Try.func34 (by kernel_rfl) (by kernel_rfl) env34x33 200 (L34x33_fit) (by kernel_rfl)).to (eq34x33)
noncomputable def s34x33 : Summ Try.prog := reads34x33.summ (by kernel_rfl)
noncomputable def s34 : Summ Try.prog := s34x33
/- chicane/car.ranged -/
noncomputable def c24 : Code := (Try.f24.body.getD .skip)
noncomputable def env24 : Env Try.prog := [s33, s34]
noncomputable def L24 : Loops Try.prog := []
theorem L24_fit : (L24).fit c24 := Loops.fit_nil
noncomputable def law24 (x : ((List boundT) × Unit)) : Option ((Int × Unit)) := (Option.bind (fn34x33 x ()) fun v0 => (bif v0.fst then some ((40, ())) else some ((0, ()))))
theorem eq24 (x : Sh.Ts [boundSh.sl]) : codeLaw Try.prog env24 200 (L24) Try.f24 c24 [.sl (boundSh)] [.int .i64] x = law24 x := by
  have h : codeLaw Try.prog env24 200 (L24) Try.f24 c24 [.sl (boundSh)] [.int .i64] x = (bif decide (List.length x.fst = List.length x.fst) && true && true then (Option.bind (fn34x33 x ()) fun v0 => (bif v0.fst then some ((40, ())) else some ((0, ())))) else none) := by kernel_rfl
  rw [h]
  unfold law24
  simp only [decide_self, decide_true, Nat.zero_add, Bool.and_true, Bool.true_and, cond_true]
noncomputable def fn24 (x : ((List boundT) × Unit)) : Option ((Int × Unit)) := law24 x
theorem reads24 : Reads Try.prog 24 [.sl (boundSh)] [.int .i64] fn24 := (Reads.of_code mixed (fn := Try.f24) (c := c24) Try.func24 (by kernel_rfl) (by kernel_rfl) env24 200 (L24_fit) (by kernel_rfl)).to (eq24)
noncomputable def s24 : Summ Try.prog := reads24.summ
/- chicane/car.body -/
noncomputable def c22 : Code := (Try.f22.body.getD .skip)
noncomputable def env22 : Env Try.prog := [s24]
noncomputable def L22 : Loops Try.prog := []
theorem L22_fit : (L22).fit c22 := Loops.fit_nil
noncomputable def law22 (x : (CarT × Unit)) : Option ((Int × Unit)) := (Option.bind (fn24 ([(x.fst.fst, 274877906944, 35184372088832, ()), (x.fst.snd.fst.fst, 68719476736, 281474976710656, ()), (x.fst.snd.fst.snd.fst, 68719476736, 281474976710656, ()), (x.fst.snd.fst.snd.snd.fst, 68719476736, 281474976710656, ()), (x.fst.snd.snd.snd.snd.snd.snd.snd.snd.snd.snd.snd.snd.snd.snd.snd.snd.snd.snd.snd.snd.snd.snd.snd.snd.snd.fst, 2147483648, 17179869184, ()), (x.fst.snd.snd.snd.snd.snd.snd.snd.snd.snd.snd.snd.snd.snd.snd.snd.snd.snd.snd.snd.snd.snd.snd.snd.snd.snd.snd.fst, 0, 4294967296, ()), (x.fst.snd.snd.snd.snd.snd.snd.snd.snd.snd.snd.snd.snd.snd.snd.snd.snd.snd.snd.snd.snd.snd.snd.snd.snd.snd.snd.snd.fst, 0, 4294967296, ())], ())) fun v0 => some ((v0.fst, ())))
theorem eq22 (x : Sh.Ts [CarSh]) : codeLaw Try.prog env22 200 (L22) Try.f22 c22 [CarSh] [.int .i64] x = law22 x := by kernel_rfl
noncomputable def fn22 (x : (CarT × Unit)) : Option ((Int × Unit)) := law22 x
theorem reads22 : Reads Try.prog 22 [CarSh] [.int .i64] fn22 := (Reads.of_code mixed (fn := Try.f22) (c := c22) Try.func22 (by kernel_rfl) (by kernel_rfl) env22 200 (L22_fit) (by kernel_rfl)).to (eq22)
noncomputable def s22 : Summ Try.prog := reads22.summ
/- chicane/car.wheel -/
noncomputable def c23 : Code := (Try.f23.body.getD .skip)
noncomputable def env23 : Env Try.prog := [s24]
noncomputable def L23 : Loops Try.prog := []
theorem L23_fit : (L23).fit c23 := Loops.fit_nil
noncomputable def law23 (x : (WheelT × Unit)) : Option ((Int × Unit)) := (Option.bind (fn24 ([(x.fst.fst.fst, -17179869184, 17179869184, ()), (x.fst.fst.snd.fst, -17179869184, 17179869184, ()), (x.fst.fst.snd.snd.fst, -8589934592, 8589934592, ()), (x.fst.snd.fst, 536870912, 4294967296, ()), (x.fst.snd.snd.fst, 536870912, 274877906944, ()), (x.fst.snd.snd.snd.fst, 4398046511104, 1125899906842624, ()), (x.fst.snd.snd.snd.snd.fst, 67108864, 2147483648, ()), (x.fst.snd.snd.snd.snd.snd.fst, 0, 4503599627370496, ())], ())) fun v0 => some ((v0.fst, ())))
theorem eq23 (x : Sh.Ts [WheelSh]) : codeLaw Try.prog env23 200 (L23) Try.f23 c23 [WheelSh] [.int .i64] x = law23 x := by kernel_rfl
noncomputable def fn23 (x : (WheelT × Unit)) : Option ((Int × Unit)) := law23 x
theorem reads23 : Reads Try.prog 23 [WheelSh] [.int .i64] fn23 := (Reads.of_code mixed (fn := Try.f23) (c := c23) Try.func23 (by kernel_rfl) (by kernel_rfl) env23 200 (L23_fit) (by kernel_rfl)).to (eq23)
noncomputable def s23 : Summ Try.prog := reads23.summ
/- chicane/table.Right -/
noncomputable def c35 : Code := (Try.f35.body.getD .skip)
noncomputable def env35 : Env Try.prog := []
noncomputable def b35o0 : Code := ((kid ((subAt c35 [0, 1, 0, 1, 1]).getD .skip) 0).getD .skip)
noncomputable def kx35o0 : Exit → List Nat | .ret => [2] | _ => []
noncomputable def Li35o0 (N0 : Nat) : Loops Try.prog := []
noncomputable def ls35o0 (N0 : Nat) : LSumm Try.prog := loopSumm mixed env35 200 (Li35o0 N0) b35o0 (Loops.fit_nil) [0, 13, 14, 15] kx35o0 (N0)
noncomputable def ln35o0 {β : Type} (N0 : Nat) (n : Nat) (t : List AV) (h : Heap) (K : Exit → List AV → Heap → Option β) : Option β := loopN Try.prog env35 (Sh.nes [.sl (DotSh)]) 200 (Li35o0 N0) b35o0 [0, 13, 14, 15] kx35o0 n t h K
noncomputable def L35 (N0 : Nat) : Loops Try.prog := [([0, 1, 0, 1, 1], ls35o0 N0)]
theorem L35_fit (N0 : Nat) : (L35 N0).fit c35 := Loops.fit_cons (by kernel_rfl) (Loops.fit_nil)
noncomputable def K35 : Exit → List AV → Heap → Option (Sh.Ts [.int .i64]) := fun e t h => outK (P := Try.prog) Try.f35 [.int .i64] e t h
noncomputable def rk35o0 (N0 : Nat) : Exit → List AV → Heap → Option (Sh.Ts [.int .i64]) := (blkK 0 (seqK Try.prog env35 (Sh.nes [.sl (DotSh)]) 197 (L35 N0) [1, 1, 1] ((subAt c35 [1, 1, 1]).getD .skip) K35))
noncomputable def t35o0 (N0 : Nat) (x : Sh.Ts [DotSh.sl]) (i7 : Int) : List AV := [AV.slc 0 0 (List.length x.fst) Cap.low, AV.any, AV.any, AV.any, AV.any, AV.any, AV.any, AV.any, AV.any, AV.any, AV.any, AV.any, AV.any, AV.slc 0 0 (List.length x.fst) Cap.low, AV.val (Value.int IntKind.i64 (↑(List.length x.fst) : Int)), AV.val (Value.int IntKind.i64 i7), AV.any, AV.any, AV.any, AV.any, AV.any, AV.any, AV.any, AV.any, AV.any, AV.any, AV.any, AV.any, AV.any, AV.any, AV.any, AV.any, AV.any, AV.any, AV.any, AV.any, AV.any, AV.any, AV.any, AV.any, AV.any, AV.any, AV.any, AV.any, AV.any, AV.any, AV.any, AV.any, AV.any, AV.any]
noncomputable def h35o0 (N0 : Nat) (x : Sh.Ts [DotSh.sl]) (i7 : Int) : Heap := [Ent.live (Blk.mk (Cells.arr (Sh.st [Sh.int IntKind.i64, Sh.int IntKind.i64]) x.fst) false none)]
noncomputable def tx35o0o0 (N0 : Nat) (x : Sh.Ts [DotSh.sl]) (w10 : Int) : List AV := [AV.any, AV.any, AV.val (Value.int IntKind.i64 w10), AV.any, AV.any, AV.any, AV.any, AV.any, AV.any, AV.any, AV.any, AV.any, AV.any, AV.any, AV.any, AV.any, AV.any, AV.any, AV.any, AV.any, AV.any, AV.any, AV.any, AV.any, AV.any, AV.any, AV.any, AV.any, AV.any, AV.any, AV.any, AV.any, AV.any, AV.any, AV.any, AV.any, AV.any, AV.any, AV.any, AV.any, AV.any, AV.any, AV.any, AV.any, AV.any, AV.any, AV.any, AV.any, AV.any, AV.any]
noncomputable def hx35o0o0 (N0 : Nat) (x : Sh.Ts [DotSh.sl]) (w10 : Int) : Heap := [Ent.live (Blk.mk (Cells.arr (Sh.st [Sh.int IntKind.i64, Sh.int IntKind.i64]) x.fst) false none)]
noncomputable def tx35o0o1 (N0 : Nat) (x : Sh.Ts [DotSh.sl]) : List AV := [AV.any, AV.any, AV.any, AV.any, AV.any, AV.any, AV.any, AV.any, AV.any, AV.any, AV.any, AV.any, AV.any, AV.any, AV.any, AV.any, AV.any, AV.any, AV.any, AV.any, AV.any, AV.any, AV.any, AV.any, AV.any, AV.any, AV.any, AV.any, AV.any, AV.any, AV.any, AV.any, AV.any, AV.any, AV.any, AV.any, AV.any, AV.any, AV.any, AV.any, AV.any, AV.any, AV.any, AV.any, AV.any, AV.any, AV.any, AV.any, AV.any, AV.any]
noncomputable def hx35o0o1 (N0 : Nat) (x : Sh.Ts [DotSh.sl]) : Heap := [Ent.live (Blk.mk (Cells.arr (Sh.st [Sh.int IntKind.i64, Sh.int IntKind.i64]) x.fst) false none)]
noncomputable def law35o0 {β : Type} (N0 : Nat) (x : ((List DotT) × Unit)) (k0 : Int → Option β) (k1 : Option β) : Nat → Int → Option β
  | 0, _ => none
  | n + 1, i7 => (bif decide (i7 < (↑(List.length x.fst) : Int)) then (bif decide (0 ≤ i7) && decide (i7 < (↑(List.length x.fst) : Int)) then (Option.bind x.fst[i7.toNat]? fun v8 => (bif decide ((if v8.snd.fst > v8.fst then v8.snd.fst else v8.fst) > 4503599627370496) then k0 40 else (bif decide ((if v8.snd.fst < v8.fst then v8.snd.fst else v8.fst) < -4503599627370496) then k0 40 else (bif decide (i7 > 0) then (bif decide (0 ≤ IntKind.i64.wrap (i7 - 1)) && decide (IntKind.i64.wrap (i7 - 1) < (↑(List.length x.fst) : Int)) then (Option.bind (x.fst[(IntKind.i64.wrap (i7 - 1)).toNat]?) fun v9 => (bif decide (v8.fst ≤ v9.fst) then k0 41 else law35o0 N0 x k0 k1 n (IntKind.i64.wrap (i7 + 1)))) else none) else law35o0 N0 x k0 k1 n (IntKind.i64.wrap (i7 + 1)))))) else none) else k1)
theorem leq35o0 {β : Type} (N0 : Nat) (x : Sh.Ts [DotSh.sl]) (K : Exit → List AV → Heap → Option β) : ∀ (n : Nat) (i7 : Int), ln35o0 N0 n (t35o0 N0 x i7) (h35o0 N0 x i7) K = law35o0 N0 x (fun w10 => K (Exit.ret) (tx35o0o0 N0 x w10) (hx35o0o0 N0 x w10)) (K (Exit.exit 0) (tx35o0o1 N0 x) (hx35o0o1 N0 x)) n i7
  | 0, _ => rfl
  | n + 1, i7 => by
    have h : ln35o0 N0 (n + 1) (t35o0 N0 x i7) (h35o0 N0 x i7) K = (bif decide (i7 < (↑(List.length x.fst) : Int)) then (bif decide (0 ≤ i7) && decide (i7 < (↑(List.length x.fst) : Int)) then (Option.bind x.fst[i7.toNat]? fun v8 => (bif decide ((if v8.snd.fst > v8.fst then v8.snd.fst else v8.fst) > 4503599627370496) then K (Exit.ret) (tx35o0o0 N0 x 40) (hx35o0o0 N0 x 40) else (bif decide ((if v8.snd.fst < v8.fst then v8.snd.fst else v8.fst) < -4503599627370496) then K (Exit.ret) (tx35o0o0 N0 x 40) (hx35o0o0 N0 x 40) else (bif decide (i7 > 0) then (bif decide (0 ≤ IntKind.i64.wrap (i7 - 1)) && decide (IntKind.i64.wrap (i7 - 1) < (↑(List.length x.fst) : Int)) then (Option.bind (x.fst[(IntKind.i64.wrap (i7 - 1)).toNat]?) fun v9 => (bif decide (v8.fst ≤ v9.fst) then K (Exit.ret) (tx35o0o0 N0 x 41) (hx35o0o0 N0 x 41) else ln35o0 N0 n (t35o0 N0 x (IntKind.i64.wrap (i7 + 1))) (h35o0 N0 x (IntKind.i64.wrap (i7 + 1))) K)) else none) else ln35o0 N0 n (t35o0 N0 x (IntKind.i64.wrap (i7 + 1))) (h35o0 N0 x (IntKind.i64.wrap (i7 + 1))) K)))) else none) else K (Exit.exit 0) (tx35o0o1 N0 x) (hx35o0o1 N0 x)) := by kernel_rfl
    rw [h]
    simp only [decide_self, decide_true, Nat.zero_add, Bool.and_true, Bool.true_and, cond_true, law35o0, leq35o0 N0 x K n]
theorem rest35o0o0 (N0 : Nat) (x : Sh.Ts [DotSh.sl]) (w11 : Int) : rk35o0 N0 (Exit.ret) (tx35o0o0 N0 x w11) (hx35o0o0 N0 x w11) = some ((w11, ())) := by kernel_rfl
theorem rest35o0o1 (N0 : Nat) (x : Sh.Ts [DotSh.sl]) : rk35o0 N0 (Exit.exit 0) (tx35o0o1 N0 x) (hx35o0o1 N0 x) = some ((0, ())) := by kernel_rfl
noncomputable def law35 (N0 : Nat) (x : ((List DotT) × Unit)) : Option ((Int × Unit)) := (bif decide ((↑(List.length x.fst) : Int) < 2) then some ((42, ())) else (bif decide ((↑(List.length x.fst) : Int) > 32) then some ((42, ())) else (law35o0 N0 x (fun w11 => some ((w11, ()))) (some ((0, ()))) N0 0)))
theorem eq35 (N0 : Nat) (x : Sh.Ts [DotSh.sl]) : codeLaw Try.prog env35 200 (L35 N0) Try.f35 c35 [.sl (DotSh)] [.int .i64] x = law35 N0 x := by
  have h : codeLaw Try.prog env35 200 (L35 N0) Try.f35 c35 [.sl (DotSh)] [.int .i64] x = (bif decide ((↑(List.length x.fst) : Int) < 2) then some ((42, ())) else (bif decide ((↑(List.length x.fst) : Int) > 32) then some ((42, ())) else (ln35o0 N0 N0 (t35o0 N0 x 0) (h35o0 N0 x 0) (rk35o0 N0)))) := by kernel_rfl
  rw [h]
  unfold law35
  simp only [decide_self, decide_true, Nat.zero_add, Bool.and_true, Bool.true_and, cond_true, leq35o0, rest35o0o0, rest35o0o1]
noncomputable def fn35 (x : ((List DotT) × Unit)) : Option ((Int × Unit)) := law35 (10 ^ 30) x
theorem reads35 : Reads Try.prog 35 [.sl (DotSh)] [.int .i64] fn35 := (Reads.of_code mixed (fn := Try.f35) (c := c35) Try.func35 (by kernel_rfl) (by kernel_rfl) env35 200 (L35_fit _) (by kernel_rfl)).to (eq35 _)
noncomputable def s35 : Summ Try.prog := reads35.summ
/- chicane/car.alike -/
noncomputable def c26 : Code := (Try.f26.body.getD .skip)
noncomputable def env26 : Env Try.prog := []
noncomputable def L26 : Loops Try.prog := []
theorem L26_fit : (L26).fit c26 := Loops.fit_nil
noncomputable def law26 (x : (DotT × Unit)) : Option ((Bool × Unit)) := (bif decide ((if x.fst.snd.fst < x.fst.fst then x.fst.snd.fst else x.fst.fst) < 0) then some ((!decide ((if x.fst.snd.fst > x.fst.fst then x.fst.snd.fst else x.fst.fst) > 0), ())) else some ((!false, ())))
theorem eq26 (x : Sh.Ts [DotSh]) : codeLaw Try.prog env26 200 (L26) Try.f26 c26 [DotSh] [.bool] x = law26 x := by kernel_rfl
noncomputable def fn26 (x : (DotT × Unit)) : Option ((Bool × Unit)) := law26 x
theorem reads26 : Reads Try.prog 26 [DotSh] [.bool] fn26 := (Reads.of_code mixed (fn := Try.f26) (c := c26) Try.func26 (by kernel_rfl) (by kernel_rfl) env26 200 (L26_fit) (by kernel_rfl)).to (eq26)
noncomputable def s26 : Summ Try.prog := reads26.summ
/- chicane/car.values -/
noncomputable def c25x26 : Code := (Try.f25.body.getD .skip)
noncomputable def env25x26 : Env Try.prog := [s35, s26]
noncomputable def b25x26_0 : Code := ((kid ((subAt c25x26 [0, 1, 0, 1, 1]).getD .skip) 0).getD .skip)
noncomputable def kx25x26_0 : Exit → List Nat | .ret => [8] | _ => []
noncomputable def Li25x26_0 (N0 : Nat) : Loops Try.prog := []
noncomputable def ls25x26_0 (N0 : Nat) : LSumm Try.prog := loopSumm mixed env25x26 200 (Li25x26_0 N0) b25x26_0 (Loops.fit_nil) [1, 2, 3, 17, 18, 19] kx25x26_0 (N0)
noncomputable def ln25x26_0 {β : Type} (N0 : Nat) (n : Nat) (t : List AV) (h : Heap) (K : Exit → List AV → Heap → Option β) : Option β := loopN Try.prog env25x26 (Sh.nes [.sl (DotSh), .int .i64, .int .i64] + Sh.nes [] + List.length (α := Sh) []) 200 (Li25x26_0 N0) b25x26_0 [1, 2, 3, 17, 18, 19] kx25x26_0 n t h K
noncomputable def L25x26 (N0 : Nat) : Loops Try.prog := [([0, 1, 0, 1, 1], ls25x26_0 N0)]
theorem L25x26_fit (N0 : Nat) : (L25x26 N0).fit c25x26 := Loops.fit_cons (by kernel_rfl) (Loops.fit_nil)
noncomputable def K25x26 : Exit → List AV → Heap → Option (Sh.Ts [.int .i64]) := fun e t h => outK (P := Try.prog) Try.f25 [.int .i64] e t h
noncomputable def rk25x26_0 (N0 : Nat) : Exit → List AV → Heap → Option (Sh.Ts [.int .i64]) := (blkK 0 (seqK Try.prog env25x26 (Sh.nes [.sl (DotSh), .int .i64, .int .i64] + Sh.nes [] + List.length (α := Sh) []) 197 (L25x26 N0) [1, 1, 1] ((subAt c25x26 [1, 1, 1]).getD .skip) K25x26))
noncomputable def t25x26_0 (N0 : Nat) (x : Sh.Ts [DotSh.sl, Sh.int IntKind.i64, Sh.int IntKind.i64]) (i9 : Int) : List AV := [AV.any, AV.val (Value.int IntKind.i64 x.snd.fst), AV.val (Value.int IntKind.i64 x.snd.snd.fst), AV.fn (Fn.func 26) [] [], AV.any, AV.any, AV.any, AV.any, AV.any, AV.any, AV.any, AV.any, AV.any, AV.any, AV.any, AV.any, AV.any, AV.slc 0 0 (List.length x.fst) Cap.low, AV.val (Value.int IntKind.i64 (↑(List.length x.fst) : Int)), AV.val (Value.int IntKind.i64 i9), AV.any, AV.any, AV.any, AV.any, AV.any, AV.any, AV.any, AV.any, AV.any, AV.any, AV.any, AV.any, AV.any, AV.any, AV.any, AV.any, AV.any, AV.any, AV.any, AV.any]
noncomputable def h25x26_0 (N0 : Nat) (x : Sh.Ts [DotSh.sl, Sh.int IntKind.i64, Sh.int IntKind.i64]) (i9 : Int) : Heap := [Ent.live (Blk.mk (Cells.arr (Sh.st [Sh.int IntKind.i64, Sh.int IntKind.i64]) x.fst) false none)]
noncomputable def tx25x26_0_0 (N0 : Nat) (x : Sh.Ts [DotSh.sl, Sh.int IntKind.i64, Sh.int IntKind.i64]) : List AV := [AV.any, AV.any, AV.any, AV.any, AV.any, AV.any, AV.any, AV.any, AV.val (Value.int IntKind.i64 40), AV.any, AV.any, AV.any, AV.any, AV.any, AV.any, AV.any, AV.any, AV.any, AV.any, AV.any, AV.any, AV.any, AV.any, AV.any, AV.any, AV.any, AV.any, AV.any, AV.any, AV.any, AV.any, AV.any, AV.any, AV.any, AV.any, AV.any, AV.any, AV.any, AV.any, AV.any]
noncomputable def hx25x26_0_0 (N0 : Nat) (x : Sh.Ts [DotSh.sl, Sh.int IntKind.i64, Sh.int IntKind.i64]) : Heap := [Ent.live (Blk.mk (Cells.arr (Sh.st [Sh.int IntKind.i64, Sh.int IntKind.i64]) x.fst) false none)]
noncomputable def tx25x26_0_1 (N0 : Nat) (x : Sh.Ts [DotSh.sl, Sh.int IntKind.i64, Sh.int IntKind.i64]) : List AV := [AV.any, AV.any, AV.any, AV.any, AV.any, AV.any, AV.any, AV.any, AV.any, AV.any, AV.any, AV.any, AV.any, AV.any, AV.any, AV.any, AV.any, AV.any, AV.any, AV.any, AV.any, AV.any, AV.any, AV.any, AV.any, AV.any, AV.any, AV.any, AV.any, AV.any, AV.any, AV.any, AV.any, AV.any, AV.any, AV.any, AV.any, AV.any, AV.any, AV.any]
noncomputable def hx25x26_0_1 (N0 : Nat) (x : Sh.Ts [DotSh.sl, Sh.int IntKind.i64, Sh.int IntKind.i64]) : Heap := [Ent.live (Blk.mk (Cells.arr (Sh.st [Sh.int IntKind.i64, Sh.int IntKind.i64]) x.fst) false none)]
noncomputable def law25x26_0 {β : Type} (N0 : Nat) (x : ((List DotT) × Int × Int × Unit)) (k0 : Option β) (k1 : Option β) : Nat → Int → Option β
  | 0, _ => none
  | n + 1, i9 => (bif decide (i9 < (↑(List.length x.fst) : Int)) then (bif decide (0 ≤ i9) && decide (i9 < (↑(List.length x.fst) : Int)) then (Option.bind x.fst[i9.toNat]? fun v10 => (bif decide (v10.snd.fst < x.snd.fst) then k0 else (bif decide (v10.snd.fst > x.snd.snd.fst) then k0 else (Option.bind (fn26 (v10, ())) fun v11 => (bif !v11.fst then k0 else law25x26_0 N0 x k0 k1 n (IntKind.i64.wrap (i9 + 1))))))) else none) else k1)
theorem leq25x26_0 {β : Type} (N0 : Nat) (x : Sh.Ts [DotSh.sl, Sh.int IntKind.i64, Sh.int IntKind.i64]) (K : Exit → List AV → Heap → Option β) : ∀ (n : Nat) (i9 : Int), ln25x26_0 N0 n (t25x26_0 N0 x i9) (h25x26_0 N0 x i9) K = law25x26_0 N0 x (K (Exit.ret) (tx25x26_0_0 N0 x) (hx25x26_0_0 N0 x)) (K (Exit.exit 0) (tx25x26_0_1 N0 x) (hx25x26_0_1 N0 x)) n i9
  | 0, _ => rfl
  | n + 1, i9 => by
    have h : ln25x26_0 N0 (n + 1) (t25x26_0 N0 x i9) (h25x26_0 N0 x i9) K = (bif decide (i9 < (↑(List.length x.fst) : Int)) then (bif decide (0 ≤ i9) && decide (i9 < (↑(List.length x.fst) : Int)) then (Option.bind x.fst[i9.toNat]? fun v10 => (bif decide (v10.snd.fst < x.snd.fst) then K (Exit.ret) (tx25x26_0_0 N0 x) (hx25x26_0_0 N0 x) else (bif decide (v10.snd.fst > x.snd.snd.fst) then K (Exit.ret) (tx25x26_0_0 N0 x) (hx25x26_0_0 N0 x) else (Option.bind (fn26 (v10, ())) fun v11 => (bif !v11.fst then K (Exit.ret) (tx25x26_0_0 N0 x) (hx25x26_0_0 N0 x) else ln25x26_0 N0 n (t25x26_0 N0 x (IntKind.i64.wrap (i9 + 1))) (h25x26_0 N0 x (IntKind.i64.wrap (i9 + 1))) K))))) else none) else K (Exit.exit 0) (tx25x26_0_1 N0 x) (hx25x26_0_1 N0 x)) := by kernel_rfl
    rw [h]
    simp only [decide_self, decide_true, Nat.zero_add, Bool.and_true, Bool.true_and, cond_true, law25x26_0, leq25x26_0 N0 x K n]
theorem rest25x26_0_0 (N0 : Nat) (x : Sh.Ts [DotSh.sl, Sh.int IntKind.i64, Sh.int IntKind.i64]) : rk25x26_0 N0 (Exit.ret) (tx25x26_0_0 N0 x) (hx25x26_0_0 N0 x) = some ((40, ())) := by kernel_rfl
theorem rest25x26_0_1 (N0 : Nat) (x : Sh.Ts [DotSh.sl, Sh.int IntKind.i64, Sh.int IntKind.i64]) : rk25x26_0 N0 (Exit.exit 0) (tx25x26_0_1 N0 x) (hx25x26_0_1 N0 x) = some ((0, ())) := by kernel_rfl
noncomputable def law25x26 (N0 : Nat) (x : ((List DotT) × Int × Int × Unit)) (xs : (Unit)) : Option ((Int × Unit)) := (Option.bind (fn35 (x.fst, ())) fun v0 => (bif v0.fst != 0 then some ((v0.fst, ())) else (law25x26_0 N0 x (some ((40, ()))) (some ((0, ()))) N0 0)))
theorem eq25x26 (N0 : Nat) (x : Sh.Ts [DotSh.sl, Sh.int IntKind.i64, Sh.int IntKind.i64]) (xs : Sh.Ts []) : codeLawC Try.prog env25x26 200 (L25x26 N0) Try.f25 c25x26 [.sl (DotSh), .int .i64, .int .i64] 26 [] [.int .i64] x xs = law25x26 N0 x xs := by
  have h : codeLawC Try.prog env25x26 200 (L25x26 N0) Try.f25 c25x26 [.sl (DotSh), .int .i64, .int .i64] 26 [] [.int .i64] x xs = (bif decide (List.length x.fst = List.length x.fst) && true then (Option.bind (fn35 (x.fst, ())) fun v0 => (bif v0.fst != 0 then some ((v0.fst, ())) else (ln25x26_0 N0 N0 (t25x26_0 N0 x 0) (h25x26_0 N0 x 0) (rk25x26_0 N0)))) else none) := by kernel_rfl
  rw [h]
  unfold law25x26
  simp only [decide_self, decide_true, Nat.zero_add, Bool.and_true, Bool.true_and, cond_true, leq25x26_0, rest25x26_0_0, rest25x26_0_1]
noncomputable def fn25x26 (x : ((List DotT) × Int × Int × Unit)) (xs : (Unit)) : Option ((Int × Unit)) := law25x26 (10 ^ 30) x xs
theorem reads25x26 : ReadsC Try.prog 25 [.sl (DotSh), .int .i64, .int .i64] 26 [] [.int .i64] fn25x26 := (ReadsC.of_code mixed (fn := Try.f25) (c := c25x26) Try.func25 (by kernel_rfl) (by kernel_rfl) env25x26 200 (L25x26_fit _) (by kernel_rfl)).to (eq25x26 _)
noncomputable def s25x26 : Summ Try.prog := reads25x26.summ (by kernel_rfl)
/- chicane/car.free -/
noncomputable def c28 : Code := (Try.f28.body.getD .skip)
noncomputable def env28 : Env Try.prog := []
noncomputable def L28 : Loops Try.prog := []
theorem L28_fit : (L28).fit c28 := Loops.fit_nil
noncomputable def law28 (x : (DotT × Unit)) : Option ((Bool × Unit)) := some ((true, ()))
theorem eq28 (x : Sh.Ts [DotSh]) : codeLaw Try.prog env28 200 (L28) Try.f28 c28 [DotSh] [.bool] x = law28 x := by kernel_rfl
noncomputable def fn28 (x : (DotT × Unit)) : Option ((Bool × Unit)) := law28 x
theorem reads28 : Reads Try.prog 28 [DotSh] [.bool] fn28 := (Reads.of_code mixed (fn := Try.f28) (c := c28) Try.func28 (by kernel_rfl) (by kernel_rfl) env28 200 (L28_fit) (by kernel_rfl)).to (eq28)
noncomputable def s28 : Summ Try.prog := reads28.summ
/- chicane/car.values -/
noncomputable def c25x28 : Code := (Try.f25.body.getD .skip)
noncomputable def env25x28 : Env Try.prog := [s35, s28]
noncomputable def b25x28_0 : Code := ((kid ((subAt c25x28 [0, 1, 0, 1, 1]).getD .skip) 0).getD .skip)
noncomputable def kx25x28_0 : Exit → List Nat | .ret => [8] | _ => []
noncomputable def Li25x28_0 (N0 : Nat) : Loops Try.prog := []
noncomputable def ls25x28_0 (N0 : Nat) : LSumm Try.prog := loopSumm mixed env25x28 200 (Li25x28_0 N0) b25x28_0 (Loops.fit_nil) [1, 2, 3, 17, 18, 19] kx25x28_0 (N0)
noncomputable def ln25x28_0 {β : Type} (N0 : Nat) (n : Nat) (t : List AV) (h : Heap) (K : Exit → List AV → Heap → Option β) : Option β := loopN Try.prog env25x28 (Sh.nes [.sl (DotSh), .int .i64, .int .i64] + Sh.nes [] + List.length (α := Sh) []) 200 (Li25x28_0 N0) b25x28_0 [1, 2, 3, 17, 18, 19] kx25x28_0 n t h K
noncomputable def L25x28 (N0 : Nat) : Loops Try.prog := [([0, 1, 0, 1, 1], ls25x28_0 N0)]
theorem L25x28_fit (N0 : Nat) : (L25x28 N0).fit c25x28 := Loops.fit_cons (by kernel_rfl) (Loops.fit_nil)
noncomputable def K25x28 : Exit → List AV → Heap → Option (Sh.Ts [.int .i64]) := fun e t h => outK (P := Try.prog) Try.f25 [.int .i64] e t h
noncomputable def rk25x28_0 (N0 : Nat) : Exit → List AV → Heap → Option (Sh.Ts [.int .i64]) := (blkK 0 (seqK Try.prog env25x28 (Sh.nes [.sl (DotSh), .int .i64, .int .i64] + Sh.nes [] + List.length (α := Sh) []) 197 (L25x28 N0) [1, 1, 1] ((subAt c25x28 [1, 1, 1]).getD .skip) K25x28))
noncomputable def t25x28_0 (N0 : Nat) (x : Sh.Ts [DotSh.sl, Sh.int IntKind.i64, Sh.int IntKind.i64]) (i8 : Int) : List AV := [AV.any, AV.val (Value.int IntKind.i64 x.snd.fst), AV.val (Value.int IntKind.i64 x.snd.snd.fst), AV.fn (Fn.func 28) [] [], AV.any, AV.any, AV.any, AV.any, AV.any, AV.any, AV.any, AV.any, AV.any, AV.any, AV.any, AV.any, AV.any, AV.slc 0 0 (List.length x.fst) Cap.low, AV.val (Value.int IntKind.i64 (↑(List.length x.fst) : Int)), AV.val (Value.int IntKind.i64 i8), AV.any, AV.any, AV.any, AV.any, AV.any, AV.any, AV.any, AV.any, AV.any, AV.any, AV.any, AV.any, AV.any, AV.any, AV.any, AV.any, AV.any, AV.any, AV.any, AV.any]
noncomputable def h25x28_0 (N0 : Nat) (x : Sh.Ts [DotSh.sl, Sh.int IntKind.i64, Sh.int IntKind.i64]) (i8 : Int) : Heap := [Ent.live (Blk.mk (Cells.arr (Sh.st [Sh.int IntKind.i64, Sh.int IntKind.i64]) x.fst) false none)]
noncomputable def tx25x28_0_0 (N0 : Nat) (x : Sh.Ts [DotSh.sl, Sh.int IntKind.i64, Sh.int IntKind.i64]) : List AV := [AV.any, AV.any, AV.any, AV.any, AV.any, AV.any, AV.any, AV.any, AV.val (Value.int IntKind.i64 40), AV.any, AV.any, AV.any, AV.any, AV.any, AV.any, AV.any, AV.any, AV.any, AV.any, AV.any, AV.any, AV.any, AV.any, AV.any, AV.any, AV.any, AV.any, AV.any, AV.any, AV.any, AV.any, AV.any, AV.any, AV.any, AV.any, AV.any, AV.any, AV.any, AV.any, AV.any]
noncomputable def hx25x28_0_0 (N0 : Nat) (x : Sh.Ts [DotSh.sl, Sh.int IntKind.i64, Sh.int IntKind.i64]) : Heap := [Ent.live (Blk.mk (Cells.arr (Sh.st [Sh.int IntKind.i64, Sh.int IntKind.i64]) x.fst) false none)]
noncomputable def tx25x28_0_1 (N0 : Nat) (x : Sh.Ts [DotSh.sl, Sh.int IntKind.i64, Sh.int IntKind.i64]) : List AV := [AV.any, AV.any, AV.any, AV.any, AV.any, AV.any, AV.any, AV.any, AV.any, AV.any, AV.any, AV.any, AV.any, AV.any, AV.any, AV.any, AV.any, AV.any, AV.any, AV.any, AV.any, AV.any, AV.any, AV.any, AV.any, AV.any, AV.any, AV.any, AV.any, AV.any, AV.any, AV.any, AV.any, AV.any, AV.any, AV.any, AV.any, AV.any, AV.any, AV.any]
noncomputable def hx25x28_0_1 (N0 : Nat) (x : Sh.Ts [DotSh.sl, Sh.int IntKind.i64, Sh.int IntKind.i64]) : Heap := [Ent.live (Blk.mk (Cells.arr (Sh.st [Sh.int IntKind.i64, Sh.int IntKind.i64]) x.fst) false none)]
noncomputable def law25x28_0 {β : Type} (N0 : Nat) (x : ((List DotT) × Int × Int × Unit)) (k0 : Option β) (k1 : Option β) : Nat → Int → Option β
  | 0, _ => none
  | n + 1, i8 => (bif decide (i8 < (↑(List.length x.fst) : Int)) then (bif decide (0 ≤ i8) && decide (i8 < (↑(List.length x.fst) : Int)) then (Option.bind x.fst[i8.toNat]? fun v9 => (bif decide (v9.snd.fst < x.snd.fst) then k0 else (bif decide (v9.snd.fst > x.snd.snd.fst) then k0 else law25x28_0 N0 x k0 k1 n (IntKind.i64.wrap (i8 + 1))))) else none) else k1)
theorem leq25x28_0 {β : Type} (N0 : Nat) (x : Sh.Ts [DotSh.sl, Sh.int IntKind.i64, Sh.int IntKind.i64]) (K : Exit → List AV → Heap → Option β) : ∀ (n : Nat) (i8 : Int), ln25x28_0 N0 n (t25x28_0 N0 x i8) (h25x28_0 N0 x i8) K = law25x28_0 N0 x (K (Exit.ret) (tx25x28_0_0 N0 x) (hx25x28_0_0 N0 x)) (K (Exit.exit 0) (tx25x28_0_1 N0 x) (hx25x28_0_1 N0 x)) n i8
  | 0, _ => rfl
  | n + 1, i8 => by
    have h : ln25x28_0 N0 (n + 1) (t25x28_0 N0 x i8) (h25x28_0 N0 x i8) K = (bif decide (i8 < (↑(List.length x.fst) : Int)) then (bif decide (0 ≤ i8) && decide (i8 < (↑(List.length x.fst) : Int)) then (Option.bind x.fst[i8.toNat]? fun v9 => (bif decide (v9.snd.fst < x.snd.fst) then K (Exit.ret) (tx25x28_0_0 N0 x) (hx25x28_0_0 N0 x) else (bif decide (v9.snd.fst > x.snd.snd.fst) then K (Exit.ret) (tx25x28_0_0 N0 x) (hx25x28_0_0 N0 x) else ln25x28_0 N0 n (t25x28_0 N0 x (IntKind.i64.wrap (i8 + 1))) (h25x28_0 N0 x (IntKind.i64.wrap (i8 + 1))) K))) else none) else K (Exit.exit 0) (tx25x28_0_1 N0 x) (hx25x28_0_1 N0 x)) := by kernel_rfl
    rw [h]
    simp only [decide_self, decide_true, Nat.zero_add, Bool.and_true, Bool.true_and, cond_true, law25x28_0, leq25x28_0 N0 x K n]
theorem rest25x28_0_0 (N0 : Nat) (x : Sh.Ts [DotSh.sl, Sh.int IntKind.i64, Sh.int IntKind.i64]) : rk25x28_0 N0 (Exit.ret) (tx25x28_0_0 N0 x) (hx25x28_0_0 N0 x) = some ((40, ())) := by kernel_rfl
theorem rest25x28_0_1 (N0 : Nat) (x : Sh.Ts [DotSh.sl, Sh.int IntKind.i64, Sh.int IntKind.i64]) : rk25x28_0 N0 (Exit.exit 0) (tx25x28_0_1 N0 x) (hx25x28_0_1 N0 x) = some ((0, ())) := by kernel_rfl
noncomputable def law25x28 (N0 : Nat) (x : ((List DotT) × Int × Int × Unit)) (xs : (Unit)) : Option ((Int × Unit)) := (Option.bind (fn35 (x.fst, ())) fun v0 => (bif v0.fst != 0 then some ((v0.fst, ())) else (law25x28_0 N0 x (some ((40, ()))) (some ((0, ()))) N0 0)))
theorem eq25x28 (N0 : Nat) (x : Sh.Ts [DotSh.sl, Sh.int IntKind.i64, Sh.int IntKind.i64]) (xs : Sh.Ts []) : codeLawC Try.prog env25x28 200 (L25x28 N0) Try.f25 c25x28 [.sl (DotSh), .int .i64, .int .i64] 28 [] [.int .i64] x xs = law25x28 N0 x xs := by
  have h : codeLawC Try.prog env25x28 200 (L25x28 N0) Try.f25 c25x28 [.sl (DotSh), .int .i64, .int .i64] 28 [] [.int .i64] x xs = (bif decide (List.length x.fst = List.length x.fst) && true then (Option.bind (fn35 (x.fst, ())) fun v0 => (bif v0.fst != 0 then some ((v0.fst, ())) else (ln25x28_0 N0 N0 (t25x28_0 N0 x 0) (h25x28_0 N0 x 0) (rk25x28_0 N0)))) else none) := by kernel_rfl
  rw [h]
  unfold law25x28
  simp only [decide_self, decide_true, Nat.zero_add, Bool.and_true, Bool.true_and, cond_true, leq25x28_0, rest25x28_0_0, rest25x28_0_1]
noncomputable def fn25x28 (x : ((List DotT) × Int × Int × Unit)) (xs : (Unit)) : Option ((Int × Unit)) := law25x28 (10 ^ 30) x xs
theorem reads25x28 : ReadsC Try.prog 25 [.sl (DotSh), .int .i64, .int .i64] 28 [] [.int .i64] fn25x28 := (ReadsC.of_code mixed (fn := Try.f25) (c := c25x28) Try.func25 (by kernel_rfl) (by kernel_rfl) env25x28 200 (L25x28_fit _) (by kernel_rfl)).to (eq25x28 _)
noncomputable def s25x28 : Summ Try.prog := reads25x28.summ (by kernel_rfl)
noncomputable def s25 : Summ Try.prog := (Summ.choose (lastFn 26) s25x26 s25x28 rfl)
/- chicane/pane.far -/
noncomputable def c43 : Code := (Try.f43.body.getD .skip)
noncomputable def env43 : Env Try.prog := []
noncomputable def L43 : Loops Try.prog := []
theorem L43_fit : (L43).fit c43 := Loops.fit_nil
noncomputable def law43 (x : (Int × Unit)) : Option ((Bool × Unit)) := (bif decide (x.fst > 4503599627370496) then some ((true, ())) else some ((decide (x.fst < -4503599627370496), ())))
theorem eq43 (x : Sh.Ts [Sh.int IntKind.i64]) : codeLaw Try.prog env43 200 (L43) Try.f43 c43 [.int .i64] [.bool] x = law43 x := by kernel_rfl
noncomputable def fn43 (x : (Int × Unit)) : Option ((Bool × Unit)) := law43 x
theorem reads43 : Reads Try.prog 43 [.int .i64] [.bool] fn43 := (Reads.of_code mixed (fn := Try.f43) (c := c43) Try.func43 (by kernel_rfl) (by kernel_rfl) env43 200 (L43_fit) (by kernel_rfl)).to (eq43)
noncomputable def s43 : Summ Try.prog := reads43.summ
/- slices.IndexFunc[[]chicane/api.Fx,chicane/api.Fx] -/
noncomputable def c50x43 : Code := (Try.f50.body.getD .skip)
noncomputable def env50x43 : Env Try.prog := [s43]
noncomputable def b50x43_0 : Code := ((kid ((subAt c50x43 [0, 1, 0, 1]).getD .skip) 0).getD .skip)
noncomputable def kx50x43_0 : Exit → List Nat | .ret => [4] | _ => []
noncomputable def Li50x43_0 (N0 : Nat) : Loops Try.prog := []
noncomputable def ls50x43_0 (N0 : Nat) : LSumm Try.prog := loopSumm mixed env50x43 200 (Li50x43_0 N0) b50x43_0 (Loops.fit_nil) [0, 1, 7, 8] kx50x43_0 (N0)
noncomputable def ln50x43_0 {β : Type} (N0 : Nat) (n : Nat) (t : List AV) (h : Heap) (K : Exit → List AV → Heap → Option β) : Option β := loopN Try.prog env50x43 (Sh.nes [.sl (.int .i64)] + Sh.nes [] + List.length (α := Sh) []) 200 (Li50x43_0 N0) b50x43_0 [0, 1, 7, 8] kx50x43_0 n t h K
noncomputable def L50x43 (N0 : Nat) : Loops Try.prog := [([0, 1, 0, 1], ls50x43_0 N0)]
theorem L50x43_fit (N0 : Nat) : (L50x43 N0).fit c50x43 := Loops.fit_cons (by kernel_rfl) (Loops.fit_nil)
noncomputable def K50x43 : Exit → List AV → Heap → Option (Sh.Ts [.int .i64]) := fun e t h => outK (P := Try.prog) Try.f50 [.int .i64] e t h
noncomputable def rk50x43_0 (N0 : Nat) : Exit → List AV → Heap → Option (Sh.Ts [.int .i64]) := (blkK 0 (seqK Try.prog env50x43 (Sh.nes [.sl (.int .i64)] + Sh.nes [] + List.length (α := Sh) []) 198 (L50x43 N0) [1, 1] ((subAt c50x43 [1, 1]).getD .skip) K50x43))
noncomputable def t50x43_0 (N0 : Nat) (x : Sh.Ts [(Sh.int IntKind.i64).sl]) (i6 : Int) : List AV := [AV.slc 0 0 (List.length x.fst) Cap.low, AV.fn (Fn.func 43) [] [], AV.any, AV.any, AV.any, AV.any, AV.any, AV.val (Value.int IntKind.i64 (↑(List.length x.fst) : Int)), AV.val (Value.int IntKind.i64 i6), AV.any, AV.any, AV.any, AV.any, AV.any, AV.any, AV.any, AV.any, AV.any, AV.any]
noncomputable def h50x43_0 (N0 : Nat) (x : Sh.Ts [(Sh.int IntKind.i64).sl]) (i6 : Int) : Heap := [Ent.live (Blk.mk (Cells.arr (Sh.int IntKind.i64) x.fst) false none)]
noncomputable def tx50x43_0_0 (N0 : Nat) (x : Sh.Ts [(Sh.int IntKind.i64).sl]) (w9 : Int) : List AV := [AV.any, AV.any, AV.any, AV.any, AV.val (Value.int IntKind.i64 w9), AV.any, AV.any, AV.any, AV.any, AV.any, AV.any, AV.any, AV.any, AV.any, AV.any, AV.any, AV.any, AV.any, AV.any]
noncomputable def hx50x43_0_0 (N0 : Nat) (x : Sh.Ts [(Sh.int IntKind.i64).sl]) (w9 : Int) : Heap := [Ent.live (Blk.mk (Cells.arr (Sh.int IntKind.i64) x.fst) false none)]
noncomputable def tx50x43_0_1 (N0 : Nat) (x : Sh.Ts [(Sh.int IntKind.i64).sl]) : List AV := [AV.any, AV.any, AV.any, AV.any, AV.any, AV.any, AV.any, AV.any, AV.any, AV.any, AV.any, AV.any, AV.any, AV.any, AV.any, AV.any, AV.any, AV.any, AV.any]
noncomputable def hx50x43_0_1 (N0 : Nat) (x : Sh.Ts [(Sh.int IntKind.i64).sl]) : Heap := [Ent.live (Blk.mk (Cells.arr (Sh.int IntKind.i64) x.fst) false none)]
noncomputable def law50x43_0 {β : Type} (N0 : Nat) (x : ((List Int) × Unit)) (k0 : Int → Option β) (k1 : Option β) : Nat → Int → Option β
  | 0, _ => none
  | n + 1, i6 => (bif decide (i6 < (↑(List.length x.fst) : Int)) then (bif decide (0 ≤ i6) && decide (i6 < (↑(List.length x.fst) : Int)) then (Option.bind x.fst[i6.toNat]? fun v7 => (Option.bind (fn43 (v7, ())) fun v8 => (bif v8.fst then k0 i6 else law50x43_0 N0 x k0 k1 n (IntKind.i64.wrap (i6 + 1))))) else none) else k1)
theorem leq50x43_0 {β : Type} (N0 : Nat) (x : Sh.Ts [(Sh.int IntKind.i64).sl]) (K : Exit → List AV → Heap → Option β) : ∀ (n : Nat) (i6 : Int), ln50x43_0 N0 n (t50x43_0 N0 x i6) (h50x43_0 N0 x i6) K = law50x43_0 N0 x (fun w9 => K (Exit.ret) (tx50x43_0_0 N0 x w9) (hx50x43_0_0 N0 x w9)) (K (Exit.exit 0) (tx50x43_0_1 N0 x) (hx50x43_0_1 N0 x)) n i6
  | 0, _ => rfl
  | n + 1, i6 => by
    have h : ln50x43_0 N0 (n + 1) (t50x43_0 N0 x i6) (h50x43_0 N0 x i6) K = (bif decide (i6 < (↑(List.length x.fst) : Int)) then (bif decide (0 ≤ i6) && decide (i6 < (↑(List.length x.fst) : Int)) then (Option.bind (x.fst[0 + i6.toNat]?) fun v7 => (Option.bind (fn43 (v7, ())) fun v8 => (bif v8.fst then K (Exit.ret) (tx50x43_0_0 N0 x i6) (hx50x43_0_0 N0 x i6) else ln50x43_0 N0 n (t50x43_0 N0 x (IntKind.i64.wrap (i6 + 1))) (h50x43_0 N0 x (IntKind.i64.wrap (i6 + 1))) K))) else none) else K (Exit.exit 0) (tx50x43_0_1 N0 x) (hx50x43_0_1 N0 x)) := by kernel_rfl
    rw [h]
    simp only [decide_self, decide_true, Nat.zero_add, Bool.and_true, Bool.true_and, cond_true, law50x43_0, leq50x43_0 N0 x K n]
theorem rest50x43_0_0 (N0 : Nat) (x : Sh.Ts [(Sh.int IntKind.i64).sl]) (w10 : Int) : rk50x43_0 N0 (Exit.ret) (tx50x43_0_0 N0 x w10) (hx50x43_0_0 N0 x w10) = some ((w10, ())) := by kernel_rfl
theorem rest50x43_0_1 (N0 : Nat) (x : Sh.Ts [(Sh.int IntKind.i64).sl]) : rk50x43_0 N0 (Exit.exit 0) (tx50x43_0_1 N0 x) (hx50x43_0_1 N0 x) = some ((-1, ())) := by kernel_rfl
noncomputable def law50x43 (N0 : Nat) (x : ((List Int) × Unit)) (xs : (Unit)) : Option ((Int × Unit)) := (law50x43_0 N0 x (fun w10 => some ((w10, ()))) (some ((-1, ()))) N0 0)
theorem eq50x43 (N0 : Nat) (x : Sh.Ts [(Sh.int IntKind.i64).sl]) (xs : Sh.Ts []) : codeLawC Try.prog env50x43 200 (L50x43 N0) Try.f50 c50x43 [.sl (.int .i64)] 43 [] [.int .i64] x xs = law50x43 N0 x xs := by
  have h : codeLawC Try.prog env50x43 200 (L50x43 N0) Try.f50 c50x43 [.sl (.int .i64)] 43 [] [.int .i64] x xs = (ln50x43_0 N0 N0 (t50x43_0 N0 x 0) (h50x43_0 N0 x 0) (rk50x43_0 N0)) := by kernel_rfl
  rw [h]
  unfold law50x43
  simp only [decide_self, decide_true, Nat.zero_add, Bool.and_true, Bool.true_and, cond_true, leq50x43_0, rest50x43_0_0, rest50x43_0_1]
noncomputable def fn50x43 (x : ((List Int) × Unit)) (xs : (Unit)) : Option ((Int × Unit)) := law50x43 (10 ^ 30) x xs
theorem reads50x43 : ReadsC Try.prog 50 [.sl (.int .i64)] 43 [] [.int .i64] fn50x43 := (ReadsC.of_code mixed (fn := Try.f50) (c := c50x43) Try.func50 (by kernel_rfl) (by kernel_rfl) env50x43 200 (L50x43_fit _) (by kernel_rfl)).to (eq50x43 _)
noncomputable def s50x43 : Summ Try.prog := reads50x43.summ (by kernel_rfl)
noncomputable def s50 : Summ Try.prog := s50x43
/- slices.ContainsFunc[[]chicane/api.Fx,chicane/api.Fx] -/
noncomputable def c42x43 : Code := (Try.f42.body.getD .skip)
noncomputable def env42x43 : Env Try.prog := [s50]
noncomputable def L42x43 : Loops Try.prog := []
theorem L42x43_fit : (L42x43).fit c42x43 := Loops.fit_nil
noncomputable def law42x43 (x : ((List Int) × Unit)) (xs : (Unit)) : Option ((Bool × Unit)) := (Option.bind (fn50x43 x ()) fun v0 => some ((decide (v0.fst ≥ 0), ())))
theorem eq42x43 (x : Sh.Ts [(Sh.int IntKind.i64).sl]) (xs : Sh.Ts []) : codeLawC Try.prog env42x43 200 (L42x43) Try.f42 c42x43 [.sl (.int .i64)] 43 [] [.bool] x xs = law42x43 x xs := by
  have h : codeLawC Try.prog env42x43 200 (L42x43) Try.f42 c42x43 [.sl (.int .i64)] 43 [] [.bool] x xs = (bif decide (List.length x.fst = List.length x.fst) && true && true then (Option.bind (fn50x43 x ()) fun v0 => some ((decide (v0.fst ≥ 0), ()))) else none) := by kernel_rfl
  rw [h]
  unfold law42x43
  simp only [decide_self, decide_true, Nat.zero_add, Bool.and_true, Bool.true_and, cond_true]
noncomputable def fn42x43 (x : ((List Int) × Unit)) (xs : (Unit)) : Option ((Bool × Unit)) := law42x43 x xs
theorem reads42x43 : ReadsC Try.prog 42 [.sl (.int .i64)] 43 [] [.bool] fn42x43 := (ReadsC.of_code mixed (fn := Try.f42) (c := c42x43) Try.func42 (by kernel_rfl) (by kernel_rfl) env42x43 200 (L42x43_fit) (by kernel_rfl)).to (eq42x43)
noncomputable def s42x43 : Summ Try.prog := reads42x43.summ (by kernel_rfl)
noncomputable def s42 : Summ Try.prog := s42x43
/- chicane/pane.Right$1 -/
noncomputable def c41 : Code := (Try.f41.body.getD .skip)
noncomputable def env41 : Env Try.prog := [s42, s43]
noncomputable def L41 : Loops Try.prog := []
theorem L41_fit : (L41).fit c41 := Loops.fit_nil
noncomputable def law41 (x : ((List Int) × Unit)) : Option ((Bool × Unit)) := (Option.bind (fn42x43 x ()) fun v0 => some ((v0.fst, ())))
theorem eq41 (x : Sh.Ts [(Sh.int IntKind.i64).sl]) : codeLaw Try.prog env41 200 (L41) Try.f41 c41 [.sl (.int .i64)] [.bool] x = law41 x := by
  have h : codeLaw Try.prog env41 200 (L41) Try.f41 c41 [.sl (.int .i64)] [.bool] x = (bif decide (List.length x.fst = List.length x.fst) && true && true then (Option.bind (fn42x43 x ()) fun v0 => some ((v0.fst, ()))) else none) := by kernel_rfl
  rw [h]
  unfold law41
  simp only [decide_self, decide_true, Nat.zero_add, Bool.and_true, Bool.true_and, cond_true]
noncomputable def fn41 (x : ((List Int) × Unit)) : Option ((Bool × Unit)) := law41 x
theorem reads41 : Reads Try.prog 41 [.sl (.int .i64)] [.bool] fn41 := (Reads.of_code mixed (fn := Try.f41) (c := c41) Try.func41 (by kernel_rfl) (by kernel_rfl) env41 200 (L41_fit) (by kernel_rfl)).to (eq41)
noncomputable def s41 : Summ Try.prog := reads41.summ
/- chicane/pane.counted$1 -/
noncomputable def c51 : Code := (Try.f51.body.getD .skip)
noncomputable def env51 : Env Try.prog := []
noncomputable def L51 : Loops Try.prog := []
theorem L51_fit : (L51).fit c51 := Loops.fit_nil
noncomputable def law51 (x : (Int × Unit)) : Option ((Bool × Unit)) := (bif decide (2 ≤ x.fst) then some ((decide (x.fst ≤ 32), ())) else some ((false, ())))
theorem eq51 (x : Sh.Ts [Sh.int IntKind.i64]) : codeLaw Try.prog env51 200 (L51) Try.f51 c51 [.int .i64] [.bool] x = law51 x := by kernel_rfl
noncomputable def fn51 (x : (Int × Unit)) : Option ((Bool × Unit)) := law51 x
theorem reads51 : Reads Try.prog 51 [.int .i64] [.bool] fn51 := (Reads.of_code mixed (fn := Try.f51) (c := c51) Try.func51 (by kernel_rfl) (by kernel_rfl) env51 200 (L51_fit) (by kernel_rfl)).to (eq51)
noncomputable def s51 : Summ Try.prog := reads51.summ
/- chicane/pane.counted$2 -/
noncomputable def c52 : Code := (Try.f52.body.getD .skip)
noncomputable def env52 : Env Try.prog := []
noncomputable def s52 : Summ Try.prog := inlSumm onlyM mixed 52 Try.f52 c52 Try.func52 (by kernel_rfl) (by kernel_rfl) env52 200 [] Loops.fit_nil
/- slices.IndexFunc[[][]chicane/api.Fx,[]chicane/api.Fx] -/
noncomputable def c53x41 : Code := (Try.f53.body.getD .skip)
noncomputable def env53x41 : Env Try.prog := [s41]
noncomputable def b53x41_0 : Code := ((kid ((subAt c53x41 [0, 1, 0, 1]).getD .skip) 0).getD .skip)
noncomputable def kx53x41_0 : Exit → List Nat | .ret => [4] | _ => []
noncomputable def Li53x41_0 (N0 : Nat) : Loops Try.prog := []
noncomputable def ls53x41_0 (N0 : Nat) : LSumm Try.prog := loopSumm mixed env53x41 200 (Li53x41_0 N0) b53x41_0 (Loops.fit_nil) [0, 1, 7, 8] kx53x41_0 (N0)
noncomputable def ln53x41_0 {β : Type} (N0 : Nat) (n : Nat) (t : List AV) (h : Heap) (K : Exit → List AV → Heap → Option β) : Option β := loopN Try.prog env53x41 (Sh.nes [.rows (.int .i64)] + Sh.nes [] + List.length (α := Sh) []) 200 (Li53x41_0 N0) b53x41_0 [0, 1, 7, 8] kx53x41_0 n t h K
noncomputable def L53x41 (N0 : Nat) : Loops Try.prog := [([0, 1, 0, 1], ls53x41_0 N0)]
theorem L53x41_fit (N0 : Nat) : (L53x41 N0).fit c53x41 := Loops.fit_cons (by kernel_rfl) (Loops.fit_nil)
noncomputable def K53x41 : Exit → List AV → Heap → Option (Sh.Ts [.int .i64]) := fun e t h => outK (P := Try.prog) Try.f53 [.int .i64] e t h
noncomputable def rk53x41_0 (N0 : Nat) : Exit → List AV → Heap → Option (Sh.Ts [.int .i64]) := (blkK 0 (seqK Try.prog env53x41 (Sh.nes [.rows (.int .i64)] + Sh.nes [] + List.length (α := Sh) []) 198 (L53x41 N0) [1, 1] ((subAt c53x41 [1, 1]).getD .skip) K53x41))
noncomputable def t53x41_0 (N0 : Nat) (x : Sh.Ts [(Sh.int IntKind.i64).rows]) (i6 : Int) : List AV := [AV.slc 0 0 (List.length x.fst) Cap.low, AV.fn (Fn.func 41) [] [], AV.any, AV.any, AV.any, AV.any, AV.any, AV.val (Value.int IntKind.i64 (↑(List.length x.fst) : Int)), AV.val (Value.int IntKind.i64 i6), AV.any, AV.any, AV.any, AV.any, AV.any, AV.any, AV.any, AV.any, AV.any, AV.any]
noncomputable def h53x41_0 (N0 : Nat) (x : Sh.Ts [(Sh.int IntKind.i64).rows]) (i6 : Int) : Heap := [Ent.live (Blk.mk (Cells.arrs (Sh.int IntKind.i64) x.fst) false none)]
noncomputable def tx53x41_0_0 (N0 : Nat) (x : Sh.Ts [(Sh.int IntKind.i64).rows]) (w9 : Int) : List AV := [AV.any, AV.any, AV.any, AV.any, AV.val (Value.int IntKind.i64 w9), AV.any, AV.any, AV.any, AV.any, AV.any, AV.any, AV.any, AV.any, AV.any, AV.any, AV.any, AV.any, AV.any, AV.any]
noncomputable def hx53x41_0_0 (N0 : Nat) (x : Sh.Ts [(Sh.int IntKind.i64).rows]) (w9 : Int) : Heap := [Ent.live (Blk.mk (Cells.arrs (Sh.int IntKind.i64) x.fst) false none)]
noncomputable def tx53x41_0_1 (N0 : Nat) (x : Sh.Ts [(Sh.int IntKind.i64).rows]) : List AV := [AV.any, AV.any, AV.any, AV.any, AV.any, AV.any, AV.any, AV.any, AV.any, AV.any, AV.any, AV.any, AV.any, AV.any, AV.any, AV.any, AV.any, AV.any, AV.any]
noncomputable def hx53x41_0_1 (N0 : Nat) (x : Sh.Ts [(Sh.int IntKind.i64).rows]) : Heap := [Ent.live (Blk.mk (Cells.arrs (Sh.int IntKind.i64) x.fst) false none)]
noncomputable def law53x41_0 {β : Type} (N0 : Nat) (x : ((List (List Int)) × Unit)) (k0 : Int → Option β) (k1 : Option β) : Nat → Int → Option β
  | 0, _ => none
  | n + 1, i6 => (bif decide (i6 < (↑(List.length x.fst) : Int)) then (bif decide (0 ≤ i6) && decide (i6 < (↑(List.length x.fst) : Int)) then (Option.bind x.fst[i6.toNat]? fun v7 => (Option.bind (fn41 (v7, ())) fun v8 => (bif v8.fst then k0 i6 else law53x41_0 N0 x k0 k1 n (IntKind.i64.wrap (i6 + 1))))) else none) else k1)
theorem leq53x41_0 {β : Type} (N0 : Nat) (x : Sh.Ts [(Sh.int IntKind.i64).rows]) (K : Exit → List AV → Heap → Option β) : ∀ (n : Nat) (i6 : Int), ln53x41_0 N0 n (t53x41_0 N0 x i6) (h53x41_0 N0 x i6) K = law53x41_0 N0 x (fun w9 => K (Exit.ret) (tx53x41_0_0 N0 x w9) (hx53x41_0_0 N0 x w9)) (K (Exit.exit 0) (tx53x41_0_1 N0 x) (hx53x41_0_1 N0 x)) n i6
  | 0, _ => rfl
  | n + 1, i6 => by
    have h : ln53x41_0 N0 (n + 1) (t53x41_0 N0 x i6) (h53x41_0 N0 x i6) K = (bif decide (i6 < (↑(List.length x.fst) : Int)) then (bif decide (0 ≤ i6) && decide (i6 < (↑(List.length x.fst) : Int)) then (Option.bind (x.fst[0 + i6.toNat]?) fun v7 => (bif decide (v7.length = v7.length) && true then (Option.bind (fn41 (v7, ())) fun v8 => (bif v8.fst then K (Exit.ret) (tx53x41_0_0 N0 x i6) (hx53x41_0_0 N0 x i6) else ln53x41_0 N0 n (t53x41_0 N0 x (IntKind.i64.wrap (i6 + 1))) (h53x41_0 N0 x (IntKind.i64.wrap (i6 + 1))) K)) else none)) else none) else K (Exit.exit 0) (tx53x41_0_1 N0 x) (hx53x41_0_1 N0 x)) := by kernel_rfl
    rw [h]
    simp only [decide_self, decide_true, Nat.zero_add, Bool.and_true, Bool.true_and, cond_true, law53x41_0, leq53x41_0 N0 x K n]
theorem rest53x41_0_0 (N0 : Nat) (x : Sh.Ts [(Sh.int IntKind.i64).rows]) (w10 : Int) : rk53x41_0 N0 (Exit.ret) (tx53x41_0_0 N0 x w10) (hx53x41_0_0 N0 x w10) = some ((w10, ())) := by kernel_rfl
theorem rest53x41_0_1 (N0 : Nat) (x : Sh.Ts [(Sh.int IntKind.i64).rows]) : rk53x41_0 N0 (Exit.exit 0) (tx53x41_0_1 N0 x) (hx53x41_0_1 N0 x) = some ((-1, ())) := by kernel_rfl
noncomputable def law53x41 (N0 : Nat) (x : ((List (List Int)) × Unit)) (xs : (Unit)) : Option ((Int × Unit)) := (law53x41_0 N0 x (fun w10 => some ((w10, ()))) (some ((-1, ()))) N0 0)
theorem eq53x41 (N0 : Nat) (x : Sh.Ts [(Sh.int IntKind.i64).rows]) (xs : Sh.Ts []) : codeLawC Try.prog env53x41 200 (L53x41 N0) Try.f53 c53x41 [.rows (.int .i64)] 41 [] [.int .i64] x xs = law53x41 N0 x xs := by
  have h : codeLawC Try.prog env53x41 200 (L53x41 N0) Try.f53 c53x41 [.rows (.int .i64)] 41 [] [.int .i64] x xs = (ln53x41_0 N0 N0 (t53x41_0 N0 x 0) (h53x41_0 N0 x 0) (rk53x41_0 N0)) := by kernel_rfl
  rw [h]
  unfold law53x41
  simp only [decide_self, decide_true, Nat.zero_add, Bool.and_true, Bool.true_and, cond_true, leq53x41_0, rest53x41_0_0, rest53x41_0_1]
noncomputable def fn53x41 (x : ((List (List Int)) × Unit)) (xs : (Unit)) : Option ((Int × Unit)) := law53x41 (10 ^ 30) x xs
theorem reads53x41 : ReadsC Try.prog 53 [.rows (.int .i64)] 41 [] [.int .i64] fn53x41 := (ReadsC.of_code mixed (fn := Try.f53) (c := c53x41) Try.func53 (by kernel_rfl) (by kernel_rfl) env53x41 200 (L53x41_fit _) (by kernel_rfl)).to (eq53x41 _)
noncomputable def s53x41 : Summ Try.prog := reads53x41.summ (by kernel_rfl)
/- slices.IndexFunc[[][]chicane/api.Fx,[]chicane/api.Fx] -/
noncomputable def c53x52 : Code := (Try.f53.body.getD .skip)
noncomputable def env53x52 : Env Try.prog := [s52]
noncomputable def b53x52_0 : Code := ((kid ((subAt c53x52 [0, 1, 0, 1]).getD .skip) 0).getD .skip)
noncomputable def kx53x52_0 : Exit → List Nat | .ret => [4] | _ => []
noncomputable def Li53x52_0 (N0 : Nat) : Loops Try.prog := []
noncomputable def ls53x52_0 (N0 : Nat) : LSumm Try.prog := loopSumm mixed env53x52 200 (Li53x52_0 N0) b53x52_0 (Loops.fit_nil) [0, 1, 7, 8] kx53x52_0 (N0)
noncomputable def ln53x52_0 {β : Type} (N0 : Nat) (n : Nat) (t : List AV) (h : Heap) (K : Exit → List AV → Heap → Option β) : Option β := loopN Try.prog env53x52 (Sh.nes [.rows (.int .i64)] + Sh.nes [PaneSh] + List.length (α := Sh) [PaneSh]) 200 (Li53x52_0 N0) b53x52_0 [0, 1, 7, 8] kx53x52_0 n t h K
noncomputable def L53x52 (N0 : Nat) : Loops Try.prog := [([0, 1, 0, 1], ls53x52_0 N0)]
theorem L53x52_fit (N0 : Nat) : (L53x52 N0).fit c53x52 := Loops.fit_cons (by kernel_rfl) (Loops.fit_nil)
noncomputable def K53x52 : Exit → List AV → Heap → Option (Sh.Ts [.int .i64]) := fun e t h => outK (P := Try.prog) Try.f53 [.int .i64] e t h
noncomputable def rk53x52_0 (N0 : Nat) : Exit → List AV → Heap → Option (Sh.Ts [.int .i64]) := (blkK 0 (seqK Try.prog env53x52 (Sh.nes [.rows (.int .i64)] + Sh.nes [PaneSh] + List.length (α := Sh) [PaneSh]) 198 (L53x52 N0) [1, 1] ((subAt c53x52 [1, 1]).getD .skip) K53x52))
noncomputable def t53x52_0 (N0 : Nat) (x : Sh.Ts [(Sh.int IntKind.i64).rows]) (xs : Sh.Ts [PaneSh]) (i11 : Int) : List AV := [AV.slc 0 0 (List.length x.fst) Cap.low, AV.fn (Fn.func 52) [] [AV.ptr 4 0], AV.any, AV.any, AV.any, AV.any, AV.any, AV.val (Value.int IntKind.i64 (↑(List.length x.fst) : Int)), AV.val (Value.int IntKind.i64 i11), AV.any, AV.any, AV.any, AV.any, AV.any, AV.any, AV.any, AV.any, AV.any, AV.any]
noncomputable def h53x52_0 (N0 : Nat) (x : Sh.Ts [(Sh.int IntKind.i64).rows]) (xs : Sh.Ts [PaneSh]) (i11 : Int) : Heap := [Ent.live (Blk.mk (Cells.arrs (Sh.int IntKind.i64) x.fst) false none), Ent.live (Blk.mk (Cells.arr (Sh.int IntKind.i64) xs.fst.fst) false none), Ent.live (Blk.mk (Cells.arr (Sh.int IntKind.i64) xs.fst.snd.fst) false none), Ent.live (Blk.mk (Cells.arrs (Sh.int IntKind.i64) xs.fst.snd.snd.fst) false none), Ent.live (Blk.mk (Cells.lit [AV.slc 1 0 (List.length xs.fst.fst) Cap.low, AV.slc 2 0 (List.length xs.fst.snd.fst) Cap.low, AV.slc 3 0 (List.length xs.fst.snd.snd.fst) Cap.low]) false none)]
noncomputable def tx53x52_0_0 (N0 : Nat) (x : Sh.Ts [(Sh.int IntKind.i64).rows]) (xs : Sh.Ts [PaneSh]) (w13 : Int) : List AV := [AV.any, AV.any, AV.any, AV.any, AV.val (Value.int IntKind.i64 w13), AV.any, AV.any, AV.any, AV.any, AV.any, AV.any, AV.any, AV.any, AV.any, AV.any, AV.any, AV.any, AV.any, AV.any]
noncomputable def hx53x52_0_0 (N0 : Nat) (x : Sh.Ts [(Sh.int IntKind.i64).rows]) (xs : Sh.Ts [PaneSh]) (w13 : Int) : Heap := [Ent.live (Blk.mk (Cells.arrs (Sh.int IntKind.i64) x.fst) false none), Ent.live (Blk.mk (Cells.arr (Sh.int IntKind.i64) xs.fst.fst) false none), Ent.live (Blk.mk (Cells.arr (Sh.int IntKind.i64) xs.fst.snd.fst) false none), Ent.live (Blk.mk (Cells.arrs (Sh.int IntKind.i64) xs.fst.snd.snd.fst) false none), Ent.live (Blk.mk (Cells.lit [AV.slc 1 0 (List.length xs.fst.fst) Cap.low, AV.slc 2 0 (List.length xs.fst.snd.fst) Cap.low, AV.slc 3 0 (List.length xs.fst.snd.snd.fst) Cap.low]) false none)]
noncomputable def tx53x52_0_1 (N0 : Nat) (x : Sh.Ts [(Sh.int IntKind.i64).rows]) (xs : Sh.Ts [PaneSh]) : List AV := [AV.any, AV.any, AV.any, AV.any, AV.any, AV.any, AV.any, AV.any, AV.any, AV.any, AV.any, AV.any, AV.any, AV.any, AV.any, AV.any, AV.any, AV.any, AV.any]
noncomputable def hx53x52_0_1 (N0 : Nat) (x : Sh.Ts [(Sh.int IntKind.i64).rows]) (xs : Sh.Ts [PaneSh]) : Heap := [Ent.live (Blk.mk (Cells.arrs (Sh.int IntKind.i64) x.fst) false none), Ent.live (Blk.mk (Cells.arr (Sh.int IntKind.i64) xs.fst.fst) false none), Ent.live (Blk.mk (Cells.arr (Sh.int IntKind.i64) xs.fst.snd.fst) false none), Ent.live (Blk.mk (Cells.arrs (Sh.int IntKind.i64) xs.fst.snd.snd.fst) false none), Ent.live (Blk.mk (Cells.lit [AV.slc 1 0 (List.length xs.fst.fst) Cap.low, AV.slc 2 0 (List.length xs.fst.snd.fst) Cap.low, AV.slc 3 0 (List.length xs.fst.snd.snd.fst) Cap.low]) false none)]
noncomputable def law53x52_0 {β : Type} (N0 : Nat) (x : ((List (List Int)) × Unit)) (xs : (PaneT × Unit)) (k0 : Int → Option β) (k1 : Option β) : Nat → Int → Option β
  | 0, _ => none
  | n + 1, i11 => (bif decide (i11 < (↑(List.length x.fst) : Int)) then (bif decide (0 ≤ i11) && decide (i11 < (↑(List.length x.fst) : Int)) then (Option.bind x.fst[i11.toNat]? fun v12 => (bif (↑v12.length : Int) != (↑(List.length xs.fst.fst) : Int) then k0 i11 else law53x52_0 N0 x xs k0 k1 n (IntKind.i64.wrap (i11 + 1)))) else none) else k1)
theorem leq53x52_0 {β : Type} (N0 : Nat) (x : Sh.Ts [(Sh.int IntKind.i64).rows]) (xs : Sh.Ts [PaneSh]) (K : Exit → List AV → Heap → Option β) : ∀ (n : Nat) (i11 : Int), ln53x52_0 N0 n (t53x52_0 N0 x xs i11) (h53x52_0 N0 x xs i11) K = law53x52_0 N0 x xs (fun w13 => K (Exit.ret) (tx53x52_0_0 N0 x xs w13) (hx53x52_0_0 N0 x xs w13)) (K (Exit.exit 0) (tx53x52_0_1 N0 x xs) (hx53x52_0_1 N0 x xs)) n i11
  | 0, _ => rfl
  | n + 1, i11 => by
    have h : ln53x52_0 N0 (n + 1) (t53x52_0 N0 x xs i11) (h53x52_0 N0 x xs i11) K = (bif decide (i11 < (↑(List.length x.fst) : Int)) then (bif decide (0 ≤ i11) && decide (i11 < (↑(List.length x.fst) : Int)) then (Option.bind (x.fst[0 + i11.toNat]?) fun v12 => (bif (↑v12.length : Int) != (↑(List.length xs.fst.fst) : Int) then K (Exit.ret) (tx53x52_0_0 N0 x xs i11) (hx53x52_0_0 N0 x xs i11) else ln53x52_0 N0 n (t53x52_0 N0 x xs (IntKind.i64.wrap (i11 + 1))) (h53x52_0 N0 x xs (IntKind.i64.wrap (i11 + 1))) K)) else none) else K (Exit.exit 0) (tx53x52_0_1 N0 x xs) (hx53x52_0_1 N0 x xs)) := by kernel_rfl
    rw [h]
    simp only [decide_self, decide_true, Nat.zero_add, Bool.and_true, Bool.true_and, cond_true, law53x52_0, leq53x52_0 N0 x xs K n]
theorem rest53x52_0_0 (N0 : Nat) (x : Sh.Ts [(Sh.int IntKind.i64).rows]) (xs : Sh.Ts [PaneSh]) (w14 : Int) : rk53x52_0 N0 (Exit.ret) (tx53x52_0_0 N0 x xs w14) (hx53x52_0_0 N0 x xs w14) = some ((w14, ())) := by kernel_rfl
theorem rest53x52_0_1 (N0 : Nat) (x : Sh.Ts [(Sh.int IntKind.i64).rows]) (xs : Sh.Ts [PaneSh]) : rk53x52_0 N0 (Exit.exit 0) (tx53x52_0_1 N0 x xs) (hx53x52_0_1 N0 x xs) = some ((-1, ())) := by kernel_rfl
noncomputable def law53x52 (N0 : Nat) (x : ((List (List Int)) × Unit)) (xs : (PaneT × Unit)) : Option ((Int × Unit)) := (law53x52_0 N0 x xs (fun w14 => some ((w14, ()))) (some ((-1, ()))) N0 0)
theorem eq53x52 (N0 : Nat) (x : Sh.Ts [(Sh.int IntKind.i64).rows]) (xs : Sh.Ts [PaneSh]) : codeLawC Try.prog env53x52 200 (L53x52 N0) Try.f53 c53x52 [.rows (.int .i64)] 52 [PaneSh] [.int .i64] x xs = law53x52 N0 x xs := by
  have h : codeLawC Try.prog env53x52 200 (L53x52 N0) Try.f53 c53x52 [.rows (.int .i64)] 52 [PaneSh] [.int .i64] x xs = (ln53x52_0 N0 N0 (t53x52_0 N0 x xs 0) (h53x52_0 N0 x xs 0) (rk53x52_0 N0)) := by kernel_rfl
  rw [h]
  unfold law53x52
  simp only [decide_self, decide_true, Nat.zero_add, Bool.and_true, Bool.true_and, cond_true, leq53x52_0, rest53x52_0_0, rest53x52_0_1]
noncomputable def fn53x52 (x : ((List (List Int)) × Unit)) (xs : (PaneT × Unit)) : Option ((Int × Unit)) := law53x52 (10 ^ 30) x xs
theorem reads53x52 : ReadsC Try.prog 53 [.rows (.int .i64)] 52 [PaneSh] [.int .i64] fn53x52 := (ReadsC.of_code mixed (fn := Try.f53) (c := c53x52) Try.func53 (by kernel_rfl) (by kernel_rfl) env53x52 200 (L53x52_fit _) (by kernel_rfl)).to (eq53x52 _)
noncomputable def s53x52 : Summ Try.prog := reads53x52.summ (by kernel_rfl)
noncomputable def s53 : Summ Try.prog := (Summ.choose (lastFn 41) s53x41 s53x52 rfl)
/- slices.ContainsFunc[[][]chicane/api.Fx,[]chicane/api.Fx] -/
noncomputable def c45x41 : Code := (Try.f45.body.getD .skip)
noncomputable def env45x41 : Env Try.prog := [s53]
noncomputable def L45x41 : Loops Try.prog := []
theorem L45x41_fit : (L45x41).fit c45x41 := Loops.fit_nil
noncomputable def law45x41 (x : ((List (List Int)) × Unit)) (xs : (Unit)) : Option ((Bool × Unit)) := (Option.bind (fn53x41 x ()) fun v0 => some ((decide (v0.fst ≥ 0), ())))
theorem eq45x41 (x : Sh.Ts [(Sh.int IntKind.i64).rows]) (xs : Sh.Ts []) : codeLawC Try.prog env45x41 200 (L45x41) Try.f45 c45x41 [.rows (.int .i64)] 41 [] [.bool] x xs = law45x41 x xs := by
  have h : codeLawC Try.prog env45x41 200 (L45x41) Try.f45 c45x41 [.rows (.int .i64)] 41 [] [.bool] x xs = (bif decide (List.length x.fst = List.length x.fst) && true && true then (Option.bind (fn53x41 x ()) fun v0 => some ((decide (v0.fst ≥ 0), ()))) else none) := by kernel_rfl
  rw [h]
  unfold law45x41
  simp only [decide_self, decide_true, Nat.zero_add, Bool.and_true, Bool.true_and, cond_true]
noncomputable def fn45x41 (x : ((List (List Int)) × Unit)) (xs : (Unit)) : Option ((Bool × Unit)) := law45x41 x xs
theorem reads45x41 : ReadsC Try.prog 45 [.rows (.int .i64)] 41 [] [.bool] fn45x41 := (ReadsC.of_code mixed (fn := Try.f45) (c := c45x41) Try.func45 (by kernel_rfl) (by kernel_rfl) env45x41 200 (L45x41_fit) (by kernel_rfl)).to (eq45x41)
noncomputable def s45x41 : Summ Try.prog := reads45x41.summ (by kernel_rfl)
/- slices.ContainsFunc[[][]chicane/api.Fx,[]chicane/api.Fx] -/
noncomputable def c45x52 : Code := (Try.f45.body.getD .skip)
noncomputable def env45x52 : Env Try.prog := [s53]
noncomputable def L45x52 : Loops Try.prog := []
theorem L45x52_fit : (L45x52).fit c45x52 := Loops.fit_nil
noncomputable def law45x52 (x : ((List (List Int)) × Unit)) (xs : (PaneT × Unit)) : Option ((Bool × Unit)) := (Option.bind (fn53x52 x xs) fun v0 => some ((decide (v0.fst ≥ 0), ())))
theorem eq45x52 (x : Sh.Ts [(Sh.int IntKind.i64).rows]) (xs : Sh.Ts [PaneSh]) : codeLawC Try.prog env45x52 200 (L45x52) Try.f45 c45x52 [.rows (.int .i64)] 52 [PaneSh] [.bool] x xs = law45x52 x xs := by
  have h : codeLawC Try.prog env45x52 200 (L45x52) Try.f45 c45x52 [.rows (.int .i64)] 52 [PaneSh] [.bool] x xs = (bif decide (List.length x.fst = List.length x.fst) && true && (decide (List.length xs.fst.fst = List.length xs.fst.fst) && (decide (List.length xs.fst.snd.fst = List.length xs.fst.snd.fst) && (decide (List.length xs.fst.snd.snd.fst = List.length xs.fst.snd.snd.fst) && true)) && true) then (Option.bind (fn53x52 x xs) fun v0 => some ((decide (v0.fst ≥ 0), ()))) else none) := by kernel_rfl
  rw [h]
  unfold law45x52
  simp only [decide_self, decide_true, Nat.zero_add, Bool.and_true, Bool.true_and, cond_true]
noncomputable def fn45x52 (x : ((List (List Int)) × Unit)) (xs : (PaneT × Unit)) : Option ((Bool × Unit)) := law45x52 x xs
theorem reads45x52 : ReadsC Try.prog 45 [.rows (.int .i64)] 52 [PaneSh] [.bool] fn45x52 := (ReadsC.of_code mixed (fn := Try.f45) (c := c45x52) Try.func45 (by kernel_rfl) (by kernel_rfl) env45x52 200 (L45x52_fit) (by kernel_rfl)).to (eq45x52)
noncomputable def s45x52 : Summ Try.prog := reads45x52.summ (by kernel_rfl)
noncomputable def s45 : Summ Try.prog := (Summ.choose (lastFn 41) s45x41 s45x52 rfl)
/- chicane/pane.counted -/
noncomputable def c44 : Code := (Try.f44.body.getD .skip)
noncomputable def env44 : Env Try.prog := [s51, s52, s45]
noncomputable def L44 : Loops Try.prog := []
theorem L44_fit : (L44).fit c44 := Loops.fit_nil
noncomputable def law44 (x : (PaneT × Unit)) : Option ((Bool × Unit)) := (Option.bind (fn51 ((↑(List.length x.fst.fst) : Int), ())) fun v0 => (bif v0.fst then (Option.bind (fn51 ((↑(List.length x.fst.snd.fst) : Int), ())) fun v1 => (bif v1.fst then (bif (↑(List.length x.fst.snd.snd.fst) : Int) == (↑(List.length x.fst.snd.fst) : Int) then (Option.bind (fn45x52 x.fst.snd.snd x) fun v2 => some ((!v2.fst, ()))) else some ((false, ()))) else some ((false, ())))) else some ((false, ()))))
theorem eq44 (x : Sh.Ts [PaneSh]) : codeLaw Try.prog env44 200 (L44) Try.f44 c44 [PaneSh] [.bool] x = law44 x := by
  have h : codeLaw Try.prog env44 200 (L44) Try.f44 c44 [PaneSh] [.bool] x = (Option.bind (fn51 ((↑(List.length x.fst.fst) : Int), ())) fun v0 => (bif v0.fst then (Option.bind (fn51 ((↑(List.length x.fst.snd.fst) : Int), ())) fun v1 => (bif v1.fst then (bif (↑(List.length x.fst.snd.snd.fst) : Int) == (↑(List.length x.fst.snd.fst) : Int) then (bif decide (List.length x.fst.snd.snd.fst = List.length x.fst.snd.snd.fst) && true && (decide (List.length x.fst.fst = List.length x.fst.fst) && (decide (List.length x.fst.snd.fst = List.length x.fst.snd.fst) && (decide (List.length x.fst.snd.snd.fst = List.length x.fst.snd.snd.fst) && true)) && true) then (Option.bind (fn45x52 x.fst.snd.snd x) fun v2 => some ((!v2.fst, ()))) else none) else some ((false, ()))) else some ((false, ())))) else some ((false, ())))) := by kernel_rfl
  rw [h]
  unfold law44
  simp only [decide_self, decide_true, Nat.zero_add, Bool.and_true, Bool.true_and, cond_true]
noncomputable def fn44 (x : (PaneT × Unit)) : Option ((Bool × Unit)) := law44 x
theorem reads44 : Reads Try.prog 44 [PaneSh] [.bool] fn44 := (Reads.of_code mixed (fn := Try.f44) (c := c44) Try.func44 (by kernel_rfl) (by kernel_rfl) env44 200 (L44_fit) (by kernel_rfl)).to (eq44)
noncomputable def s44 : Summ Try.prog := reads44.summ
/- chicane/pane.rises$1 -/
noncomputable def c55 : Code := (Try.f55.body.getD .skip)
noncomputable def env55 : Env Try.prog := []
noncomputable def L55 : Loops Try.prog := []
theorem L55_fit : (L55).fit c55 := Loops.fit_nil
noncomputable def law55 (x : (Int × Int × Unit)) : Option ((Int × Unit)) := (bif decide (x.fst > x.snd.fst) then some ((1, ())) else some ((-1, ())))
theorem eq55 (x : Sh.Ts [Sh.int IntKind.i64, Sh.int IntKind.i64]) : codeLaw Try.prog env55 200 (L55) Try.f55 c55 [.int .i64, .int .i64] [.int .i64] x = law55 x := by kernel_rfl
noncomputable def fn55 (x : (Int × Int × Unit)) : Option ((Int × Unit)) := law55 x
theorem reads55 : Reads Try.prog 55 [.int .i64, .int .i64] [.int .i64] fn55 := (Reads.of_code mixed (fn := Try.f55) (c := c55) Try.func55 (by kernel_rfl) (by kernel_rfl) env55 200 (L55_fit) (by kernel_rfl)).to (eq55)
noncomputable def s55 : Summ Try.prog := reads55.summ
/- slices.IsSortedFunc[[]chicane/api.Fx,chicane/api.Fx] -/
noncomputable def c54x55 : Code := (Try.f54.body.getD .skip)
noncomputable def env54x55 : Env Try.prog := [s55]
noncomputable def b54x55_0 : Code := ((kid ((subAt c54x55 [0, 1, 0, 1]).getD .skip) 0).getD .skip)
noncomputable def kx54x55_0 : Exit → List Nat | .ret => [4] | _ => []
noncomputable def Li54x55_0 (N0 : Nat) : Loops Try.prog := []
noncomputable def ls54x55_0 (N0 : Nat) : LSumm Try.prog := loopSumm mixed env54x55 200 (Li54x55_0 N0) b54x55_0 (Loops.fit_nil) [0, 1, 5] kx54x55_0 (N0)
noncomputable def ln54x55_0 {β : Type} (N0 : Nat) (n : Nat) (t : List AV) (h : Heap) (K : Exit → List AV → Heap → Option β) : Option β := loopN Try.prog env54x55 (Sh.nes [.sl (.int .i64)] + Sh.nes [] + List.length (α := Sh) []) 200 (Li54x55_0 N0) b54x55_0 [0, 1, 5] kx54x55_0 n t h K
noncomputable def L54x55 (N0 : Nat) : Loops Try.prog := [([0, 1, 0, 1], ls54x55_0 N0)]
theorem L54x55_fit (N0 : Nat) : (L54x55 N0).fit c54x55 := Loops.fit_cons (by kernel_rfl) (Loops.fit_nil)
noncomputable def K54x55 : Exit → List AV → Heap → Option (Sh.Ts [.bool]) := fun e t h => outK (P := Try.prog) Try.f54 [.bool] e t h
noncomputable def rk54x55_0 (N0 : Nat) : Exit → List AV → Heap → Option (Sh.Ts [.bool]) := (blkK 0 (seqK Try.prog env54x55 (Sh.nes [.sl (.int .i64)] + Sh.nes [] + List.length (α := Sh) []) 198 (L54x55 N0) [1, 1] ((subAt c54x55 [1, 1]).getD .skip) K54x55))
noncomputable def t54x55_0 (N0 : Nat) (x : Sh.Ts [(Sh.int IntKind.i64).sl]) (i6 : Int) : List AV := [AV.slc 0 0 (List.length x.fst) Cap.low, AV.fn (Fn.func 55) [] [], AV.any, AV.any, AV.any, AV.val (Value.int IntKind.i64 i6), AV.any, AV.any, AV.any, AV.any, AV.any, AV.any, AV.any, AV.any, AV.any, AV.any, AV.any, AV.any, AV.any, AV.any, AV.any, AV.any, AV.any, AV.any, AV.any]
noncomputable def h54x55_0 (N0 : Nat) (x : Sh.Ts [(Sh.int IntKind.i64).sl]) (i6 : Int) : Heap := [Ent.live (Blk.mk (Cells.arr (Sh.int IntKind.i64) x.fst) false none)]
noncomputable def tx54x55_0_0 (N0 : Nat) (x : Sh.Ts [(Sh.int IntKind.i64).sl]) : List AV := [AV.any, AV.any, AV.any, AV.any, AV.val (Value.bool false), AV.any, AV.any, AV.any, AV.any, AV.any, AV.any, AV.any, AV.any, AV.any, AV.any, AV.any, AV.any, AV.any, AV.any, AV.any, AV.any, AV.any, AV.any, AV.any, AV.any]
noncomputable def hx54x55_0_0 (N0 : Nat) (x : Sh.Ts [(Sh.int IntKind.i64).sl]) : Heap := [Ent.live (Blk.mk (Cells.arr (Sh.int IntKind.i64) x.fst) false none)]
noncomputable def tx54x55_0_1 (N0 : Nat) (x : Sh.Ts [(Sh.int IntKind.i64).sl]) : List AV := [AV.any, AV.any, AV.any, AV.any, AV.any, AV.any, AV.any, AV.any, AV.any, AV.any, AV.any, AV.any, AV.any, AV.any, AV.any, AV.any, AV.any, AV.any, AV.any, AV.any, AV.any, AV.any, AV.any, AV.any, AV.any]
noncomputable def hx54x55_0_1 (N0 : Nat) (x : Sh.Ts [(Sh.int IntKind.i64).sl]) : Heap := [Ent.live (Blk.mk (Cells.arr (Sh.int IntKind.i64) x.fst) false none)]
noncomputable def law54x55_0 {β : Type} (N0 : Nat) (x : ((List Int) × Unit)) (k0 : Option β) (k1 : Option β) : Nat → Int → Option β
  | 0, _ => none
  | n + 1, i6 => (bif decide (i6 > 0) then (bif decide (0 ≤ i6) && decide (i6 < (↑(List.length x.fst) : Int)) then (Option.bind x.fst[i6.toNat]? fun v7 => (bif decide (0 ≤ IntKind.i64.wrap (i6 - 1)) && decide (IntKind.i64.wrap (i6 - 1) < (↑(List.length x.fst) : Int)) then (Option.bind (x.fst[(IntKind.i64.wrap (i6 - 1)).toNat]?) fun v8 => (Option.bind (fn55 (v7, v8, ())) fun v9 => (bif decide (v9.fst < 0) then k0 else law54x55_0 N0 x k0 k1 n (IntKind.i64.wrap (i6 - 1))))) else none)) else none) else k1)
theorem leq54x55_0 {β : Type} (N0 : Nat) (x : Sh.Ts [(Sh.int IntKind.i64).sl]) (K : Exit → List AV → Heap → Option β) : ∀ (n : Nat) (i6 : Int), ln54x55_0 N0 n (t54x55_0 N0 x i6) (h54x55_0 N0 x i6) K = law54x55_0 N0 x (K (Exit.ret) (tx54x55_0_0 N0 x) (hx54x55_0_0 N0 x)) (K (Exit.exit 0) (tx54x55_0_1 N0 x) (hx54x55_0_1 N0 x)) n i6
  | 0, _ => rfl
  | n + 1, i6 => by
    have h : ln54x55_0 N0 (n + 1) (t54x55_0 N0 x i6) (h54x55_0 N0 x i6) K = (bif decide (i6 > 0) then (bif decide (0 ≤ i6) && decide (i6 < (↑(List.length x.fst) : Int)) then (Option.bind (x.fst[0 + i6.toNat]?) fun v7 => (bif decide (0 ≤ IntKind.i64.wrap (i6 - 1)) && decide (IntKind.i64.wrap (i6 - 1) < (↑(List.length x.fst) : Int)) then (Option.bind (x.fst[0 + (IntKind.i64.wrap (i6 - 1)).toNat]?) fun v8 => (Option.bind (fn55 (v7, v8, ())) fun v9 => (bif decide (v9.fst < 0) then K (Exit.ret) (tx54x55_0_0 N0 x) (hx54x55_0_0 N0 x) else ln54x55_0 N0 n (t54x55_0 N0 x (IntKind.i64.wrap (i6 - 1))) (h54x55_0 N0 x (IntKind.i64.wrap (i6 - 1))) K))) else none)) else none) else K (Exit.exit 0) (tx54x55_0_1 N0 x) (hx54x55_0_1 N0 x)) := by kernel_rfl
    rw [h]
    simp only [decide_self, decide_true, Nat.zero_add, Bool.and_true, Bool.true_and, cond_true, law54x55_0, leq54x55_0 N0 x K n]
theorem rest54x55_0_0 (N0 : Nat) (x : Sh.Ts [(Sh.int IntKind.i64).sl]) : rk54x55_0 N0 (Exit.ret) (tx54x55_0_0 N0 x) (hx54x55_0_0 N0 x) = some ((false, ())) := by kernel_rfl
theorem rest54x55_0_1 (N0 : Nat) (x : Sh.Ts [(Sh.int IntKind.i64).sl]) : rk54x55_0 N0 (Exit.exit 0) (tx54x55_0_1 N0 x) (hx54x55_0_1 N0 x) = some ((true, ())) := by kernel_rfl
noncomputable def law54x55 (N0 : Nat) (x : ((List Int) × Unit)) (xs : (Unit)) : Option ((Bool × Unit)) := (law54x55_0 N0 x (some ((false, ()))) (some ((true, ()))) N0 (IntKind.i64.wrap ((↑(List.length x.fst) : Int) - 1)))
theorem eq54x55 (N0 : Nat) (x : Sh.Ts [(Sh.int IntKind.i64).sl]) (xs : Sh.Ts []) : codeLawC Try.prog env54x55 200 (L54x55 N0) Try.f54 c54x55 [.sl (.int .i64)] 55 [] [.bool] x xs = law54x55 N0 x xs := by
  have h : codeLawC Try.prog env54x55 200 (L54x55 N0) Try.f54 c54x55 [.sl (.int .i64)] 55 [] [.bool] x xs = (ln54x55_0 N0 N0 (t54x55_0 N0 x (IntKind.i64.wrap ((↑(List.length x.fst) : Int) - 1))) (h54x55_0 N0 x (IntKind.i64.wrap ((↑(List.length x.fst) : Int) - 1))) (rk54x55_0 N0)) := by kernel_rfl
  rw [h]
  unfold law54x55
  simp only [decide_self, decide_true, Nat.zero_add, Bool.and_true, Bool.true_and, cond_true, leq54x55_0, rest54x55_0_0, rest54x55_0_1]
noncomputable def fn54x55 (x : ((List Int) × Unit)) (xs : (Unit)) : Option ((Bool × Unit)) := law54x55 (10 ^ 30) x xs
theorem reads54x55 : ReadsC Try.prog 54 [.sl (.int .i64)] 55 [] [.bool] fn54x55 := (ReadsC.of_code mixed (fn := Try.f54) (c := c54x55) Try.func54 (by kernel_rfl) (by kernel_rfl) env54x55 200 (L54x55_fit _) (by kernel_rfl)).to (eq54x55 _)
noncomputable def s54x55 : Summ Try.prog := reads54x55.summ (by kernel_rfl)
noncomputable def s54 : Summ Try.prog := s54x55
/- chicane/pane.rises -/
noncomputable def c46 : Code := (Try.f46.body.getD .skip)
noncomputable def env46 : Env Try.prog := [s54, s55]
noncomputable def L46 : Loops Try.prog := []
theorem L46_fit : (L46).fit c46 := Loops.fit_nil
noncomputable def law46 (x : ((List Int) × Unit)) : Option ((Bool × Unit)) := (Option.bind (fn54x55 x ()) fun v0 => some ((v0.fst, ())))
theorem eq46 (x : Sh.Ts [(Sh.int IntKind.i64).sl]) : codeLaw Try.prog env46 200 (L46) Try.f46 c46 [.sl (.int .i64)] [.bool] x = law46 x := by
  have h : codeLaw Try.prog env46 200 (L46) Try.f46 c46 [.sl (.int .i64)] [.bool] x = (bif decide (List.length x.fst = List.length x.fst) && true && true then (Option.bind (fn54x55 x ()) fun v0 => some ((v0.fst, ()))) else none) := by kernel_rfl
  rw [h]
  unfold law46
  simp only [decide_self, decide_true, Nat.zero_add, Bool.and_true, Bool.true_and, cond_true]
noncomputable def fn46 (x : ((List Int) × Unit)) : Option ((Bool × Unit)) := law46 x
theorem reads46 : Reads Try.prog 46 [.sl (.int .i64)] [.bool] fn46 := (Reads.of_code mixed (fn := Try.f46) (c := c46) Try.func46 (by kernel_rfl) (by kernel_rfl) env46 200 (L46_fit) (by kernel_rfl)).to (eq46)
noncomputable def s46 : Summ Try.prog := reads46.summ
/- chicane/pane.Right -/
noncomputable def c36 : Code := (Try.f36.body.getD .skip)
noncomputable def env36 : Env Try.prog := [s41, s44, s45, s46]
noncomputable def L36 : Loops Try.prog := []
theorem L36_fit : (L36).fit c36 := Loops.fit_nil
noncomputable def law36 (x : (PaneT × Unit)) : Option ((Int × Unit)) := (Option.bind (fn44 x) fun v0 => (bif !v0.fst then some ((42, ())) else (Option.bind (fn41 (x.fst.fst, ())) fun v1 => (bif v1.fst then some ((40, ())) else (Option.bind (fn41 (x.fst.snd.fst, ())) fun v2 => (bif v2.fst then some ((40, ())) else (Option.bind (fn45x41 x.fst.snd.snd ()) fun v3 => (bif v3.fst then some ((40, ())) else (Option.bind (fn46 (x.fst.fst, ())) fun v4 => (bif !v4.fst then some ((41, ())) else (Option.bind (fn46 (x.fst.snd.fst, ())) fun v5 => (bif !v5.fst then some ((41, ())) else some ((0, ()))))))))))))))
theorem eq36 (x : Sh.Ts [PaneSh]) : codeLaw Try.prog env36 200 (L36) Try.f36 c36 [PaneSh] [.int .i64] x = law36 x := by
  have h : codeLaw Try.prog env36 200 (L36) Try.f36 c36 [PaneSh] [.int .i64] x = (bif decide (List.length x.fst.fst = List.length x.fst.fst) && (decide (List.length x.fst.snd.fst = List.length x.fst.snd.fst) && (decide (List.length x.fst.snd.snd.fst = List.length x.fst.snd.snd.fst) && true)) && true then (Option.bind (fn44 x) fun v0 => (bif !v0.fst then some ((42, ())) else (bif decide (List.length x.fst.fst = List.length x.fst.fst) && true then (Option.bind (fn41 (x.fst.fst, ())) fun v1 => (bif v1.fst then some ((40, ())) else (bif decide (List.length x.fst.snd.fst = List.length x.fst.snd.fst) && true then (Option.bind (fn41 (x.fst.snd.fst, ())) fun v2 => (bif v2.fst then some ((40, ())) else (bif decide (List.length x.fst.snd.snd.fst = List.length x.fst.snd.snd.fst) && true && true then (Option.bind (fn45x41 x.fst.snd.snd ()) fun v3 => (bif v3.fst then some ((40, ())) else (bif decide (List.length x.fst.fst = List.length x.fst.fst) && true then (Option.bind (fn46 (x.fst.fst, ())) fun v4 => (bif !v4.fst then some ((41, ())) else (bif decide (List.length x.fst.snd.fst = List.length x.fst.snd.fst) && true then (Option.bind (fn46 (x.fst.snd.fst, ())) fun v5 => (bif !v5.fst then some ((41, ())) else some ((0, ())))) else none))) else none))) else none))) else none))) else none))) else none) := by kernel_rfl
  rw [h]
  unfold law36
  simp only [decide_self, decide_true, Nat.zero_add, Bool.and_true, Bool.true_and, cond_true]
noncomputable def fn36 (x : (PaneT × Unit)) : Option ((Int × Unit)) := law36 x
theorem reads36 : Reads Try.prog 36 [PaneSh] [.int .i64] fn36 := (Reads.of_code mixed (fn := Try.f36) (c := c36) Try.func36 (by kernel_rfl) (by kernel_rfl) env36 200 (L36_fit) (by kernel_rfl)).to (eq36)
noncomputable def s36 : Summ Try.prog := reads36.summ
/- slices.Grow[[]chicane/api.Fx,chicane/api.Fx] -/
noncomputable def c56 : Code := (Try.f56.body.getD .skip)
noncomputable def env56 : Env Try.prog := []
noncomputable def s56 : Summ Try.prog := inlSumm allRw mixed 56 Try.f56 c56 Try.func56 (by kernel_rfl) (by kernel_rfl) env56 200 [] Loops.fit_nil
/- slices.Concat[[]chicane/api.Fx,chicane/api.Fx] -/
noncomputable def c47 : Code := (Try.f47.body.getD .skip)
noncomputable def env47 : Env Try.prog := [s56]
noncomputable def b47o1 : Code := ((kid ((subAt c47 [0, 1, 0, 1, 1, 1, 1]).getD .skip) 0).getD .skip)
noncomputable def kx47o1 : Exit → List Nat | .ret => [2] | .exit 2 => [6] | _ => []
noncomputable def b47o0 : Code := ((kid ((subAt c47 [0, 1, 0, 1, 1]).getD .skip) 0).getD .skip)
noncomputable def kx47o0 : Exit → List Nat | .ret => [2] | .exit 0 => [0, 3] | _ => []
noncomputable def Li47o1 (N0 N1 : Nat) : Loops Try.prog := []
noncomputable def ls47o1 (N0 N1 : Nat) : LSumm Try.prog := loopSumm mixed env47 200 (Li47o1 N0 N1) b47o1 (Loops.fit_nil) [6, 25, 26, 27] kx47o1 (Nat.succ N1)
noncomputable def ln47o1 {β : Type} (N0 N1 : Nat) (n : Nat) (t : List AV) (h : Heap) (K : Exit → List AV → Heap → Option β) : Option β := loopN Try.prog env47 (Sh.nes [.rows (.int .i64)]) 200 (Li47o1 N0 N1) b47o1 [6, 25, 26, 27] kx47o1 n t h K
noncomputable def Li47o0 (N0 N1 : Nat) : Loops Try.prog := []
noncomputable def ls47o0 (N0 N1 : Nat) : LSumm Try.prog := loopSumm mixed env47 200 (Li47o0 N0 N1) b47o0 (Loops.fit_nil) [0, 3, 9, 10, 11] kx47o0 (Nat.succ N0)
noncomputable def ln47o0 {β : Type} (N0 N1 : Nat) (n : Nat) (t : List AV) (h : Heap) (K : Exit → List AV → Heap → Option β) : Option β := loopN Try.prog env47 (Sh.nes [.rows (.int .i64)]) 200 (Li47o0 N0 N1) b47o0 [0, 3, 9, 10, 11] kx47o0 n t h K
noncomputable def L47 (N0 N1 : Nat) : Loops Try.prog := [([0, 1, 0, 1, 1], ls47o0 N0 N1), ([0, 1, 0, 1, 1, 1, 1], ls47o1 N0 N1)]
theorem L47_fit (N0 N1 : Nat) : (L47 N0 N1).fit c47 := Loops.fit_cons (by kernel_rfl) (Loops.fit_cons (by kernel_rfl) (Loops.fit_nil))
noncomputable def K47 : Exit → List AV → Heap → Option (List (Sh.T (.int .i64))) := fun e t h => outF (P := Try.prog) Try.f47 (Sh.nes [.rows (.int .i64)]) (.int .i64) e t h
noncomputable def rk47o0 (N0 N1 : Nat) : Exit → List AV → Heap → Option (List (Sh.T (.int .i64))) := (blkK 0 (seqK Try.prog env47 (Sh.nes [.rows (.int .i64)]) 197 (L47 N0 N1) [1, 1, 1] ((subAt c47 [1, 1, 1]).getD .skip) K47))
noncomputable def rk47o1 (N0 N1 : Nat) : Exit → List AV → Heap → Option (List (Sh.T (.int .i64))) := (blkK 2 (seqK Try.prog env47 (Sh.nes [.rows (.int .i64)]) 195 (L47 N0 N1) [1, 1, 1, 1, 1] ((subAt c47 [1, 1, 1, 1, 1]).getD .skip) K47))
noncomputable def t47o0 (N0 : Nat) (N1 : Nat) (x : Sh.Ts [(Sh.int IntKind.i64).rows]) (i8 : Int) (i9 : Int) : List AV := [AV.slc 0 0 (List.length x.fst) Cap.low, AV.any, AV.any, AV.val (Value.int IntKind.i64 i8), AV.any, AV.any, AV.any, AV.any, AV.any, AV.slc 0 0 (List.length x.fst) Cap.low, AV.val (Value.int IntKind.i64 (↑(List.length x.fst) : Int)), AV.val (Value.int IntKind.i64 i9), AV.any, AV.any, AV.any, AV.any, AV.any, AV.any, AV.any, AV.any, AV.any, AV.any, AV.any, AV.any, AV.any, AV.any, AV.any, AV.any, AV.any, AV.any, AV.any, AV.any, AV.any, AV.any, AV.any, AV.any]
noncomputable def h47o0 (N0 : Nat) (N1 : Nat) (x : Sh.Ts [(Sh.int IntKind.i64).rows]) (i8 : Int) (i9 : Int) : Heap := [Ent.live (Blk.mk (Cells.arrs (Sh.int IntKind.i64) x.fst) false none)]
noncomputable def tx47o0o0 (N0 : Nat) (N1 : Nat) (x : Sh.Ts [(Sh.int IntKind.i64).rows]) (w11 : Int) : List AV := [AV.slc 0 0 (List.length x.fst) Cap.low, AV.any, AV.any, AV.val (Value.int IntKind.i64 w11), AV.any, AV.any, AV.any, AV.any, AV.any, AV.any, AV.any, AV.any, AV.any, AV.any, AV.any, AV.any, AV.any, AV.any, AV.any, AV.any, AV.any, AV.any, AV.any, AV.any, AV.any, AV.any, AV.any, AV.any, AV.any, AV.any, AV.any, AV.any, AV.any, AV.any, AV.any, AV.any]
noncomputable def hx47o0o0 (N0 : Nat) (N1 : Nat) (x : Sh.Ts [(Sh.int IntKind.i64).rows]) (w11 : Int) : Heap := [Ent.live (Blk.mk (Cells.arrs (Sh.int IntKind.i64) x.fst) false none)]
noncomputable def law47o0 {β : Type} (N0 : Nat) (N1 : Nat) (x : ((List (List Int)) × Unit)) (k0 : Int → Option β) : Nat → Int → Int → Option β
  | 0, _, _ => none
  | n + 1, i8, i9 => (bif decide (i9 < (↑(List.length x.fst) : Int)) then (bif decide (0 ≤ i9) && decide (i9 < (↑(List.length x.fst) : Int)) then (Option.bind x.fst[i9.toNat]? fun v10 => (bif decide (IntKind.i64.wrap (i8 + (↑v10.length : Int)) < 0) then none else law47o0 N0 N1 x k0 n (IntKind.i64.wrap (i8 + (↑v10.length : Int))) (IntKind.i64.wrap (i9 + 1)))) else none) else k0 i8)
theorem leq47o0 {β : Type} (N0 : Nat) (N1 : Nat) (x : Sh.Ts [(Sh.int IntKind.i64).rows]) (K : Exit → List AV → Heap → Option β) : ∀ (n : Nat) (i8 : Int) (i9 : Int), ln47o0 N0 N1 n (t47o0 N0 N1 x i8 i9) (h47o0 N0 N1 x i8 i9) K = law47o0 N0 N1 x (fun w11 => K (Exit.exit 0) (tx47o0o0 N0 N1 x w11) (hx47o0o0 N0 N1 x w11)) n i8 i9
  | 0, _, _ => rfl
  | n + 1, i8, i9 => by
    have h : ln47o0 N0 N1 (n + 1) (t47o0 N0 N1 x i8 i9) (h47o0 N0 N1 x i8 i9) K = (bif decide (i9 < (↑(List.length x.fst) : Int)) then (bif decide (0 ≤ i9) && decide (i9 < (↑(List.length x.fst) : Int)) then (Option.bind (x.fst[0 + i9.toNat]?) fun v10 => (bif decide (IntKind.i64.wrap (i8 + (↑v10.length : Int)) < 0) then none else ln47o0 N0 N1 n (t47o0 N0 N1 x (IntKind.i64.wrap (i8 + (↑v10.length : Int))) (IntKind.i64.wrap (i9 + 1))) (h47o0 N0 N1 x (IntKind.i64.wrap (i8 + (↑v10.length : Int))) (IntKind.i64.wrap (i9 + 1))) K)) else none) else K (Exit.exit 0) (tx47o0o0 N0 N1 x i8) (hx47o0o0 N0 N1 x i8)) := by kernel_rfl
    rw [h]
    simp only [decide_self, decide_true, Nat.zero_add, Bool.and_true, Bool.true_and, cond_true, law47o0, leq47o0 N0 N1 x K n]
noncomputable def t47o1o1 (N0 : Nat) (N1 : Nat) (x : Sh.Ts [(Sh.int IntKind.i64).rows]) (i21 : Nat) (i22 : Int) (i23 : List (Sh.int IntKind.i64).T) : List AV := [AV.any, AV.any, AV.any, AV.any, AV.any, AV.any, AV.slc 1 0 i21 Cap.unk, AV.any, AV.any, AV.any, AV.any, AV.any, AV.any, AV.any, AV.any, AV.any, AV.any, AV.any, AV.any, AV.any, AV.any, AV.any, AV.any, AV.any, AV.any, AV.slc 0 0 (List.length x.fst) Cap.low, AV.val (Value.int IntKind.i64 (↑(List.length x.fst) : Int)), AV.val (Value.int IntKind.i64 i22), AV.any, AV.any, AV.any, AV.any, AV.any, AV.any, AV.any, AV.any]
noncomputable def h47o1o1 (N0 : Nat) (N1 : Nat) (x : Sh.Ts [(Sh.int IntKind.i64).rows]) (i21 : Nat) (i22 : Int) (i23 : List (Sh.int IntKind.i64).T) : Heap := [Ent.live (Blk.mk (Cells.arrs (Sh.int IntKind.i64) x.fst) false none), Ent.live (Blk.mk (Cells.arr (Sh.int IntKind.i64) i23) true (some 1))]
noncomputable def tx47o1o1o0 (N0 : Nat) (N1 : Nat) (x : Sh.Ts [(Sh.int IntKind.i64).rows]) (w25 : Nat) (w26 : List (Sh.int IntKind.i64).T) : List AV := [AV.any, AV.any, AV.any, AV.any, AV.any, AV.any, AV.slc 1 0 w25 Cap.unk, AV.any, AV.any, AV.any, AV.any, AV.any, AV.any, AV.any, AV.any, AV.any, AV.any, AV.any, AV.any, AV.any, AV.any, AV.any, AV.any, AV.any, AV.any, AV.any, AV.any, AV.any, AV.any, AV.any, AV.any, AV.any, AV.any, AV.any, AV.any, AV.any]
noncomputable def hx47o1o1o0 (N0 : Nat) (N1 : Nat) (x : Sh.Ts [(Sh.int IntKind.i64).rows]) (w25 : Nat) (w26 : List (Sh.int IntKind.i64).T) : Heap := [Ent.live (Blk.mk (Cells.arrs (Sh.int IntKind.i64) x.fst) false none), Ent.live (Blk.mk (Cells.arr (Sh.int IntKind.i64) w26) true (some 1))]
noncomputable def law47o1o1 {β : Type} (N0 : Nat) (N1 : Nat) (x : ((List (List Int)) × Unit)) (k0 : Nat → List Int → Option β) : Nat → Nat → Int → List Int → Option β
  | 0, _, _, _ => none
  | n + 1, i21, i22, i23 => (bif decide (i22 < (↑(List.length x.fst) : Int)) then (bif decide (0 ≤ i22) && decide (i22 < (↑(List.length x.fst) : Int)) then (Option.bind x.fst[i22.toNat]? fun v24 => (bif decide (i21 = i23.length) && (decide ((i21 + v24.length) * Try.prog.types[22].bytes ≤ 140737488355328) && decide (i21 + v24.length ≤ 9223372036854775807)) then law47o1o1 N0 N1 x k0 n (i21 + v24.length) (IntKind.i64.wrap (i22 + 1)) (i23.append v24) else none)) else none) else k0 i21 i23)
theorem leq47o1o1 {β : Type} (N0 : Nat) (N1 : Nat) (x : Sh.Ts [(Sh.int IntKind.i64).rows]) (K : Exit → List AV → Heap → Option β) : ∀ (n : Nat) (i21 : Nat) (i22 : Int) (i23 : List (Sh.int IntKind.i64).T), ln47o1 N0 N1 n (t47o1o1 N0 N1 x i21 i22 i23) (h47o1o1 N0 N1 x i21 i22 i23) K = law47o1o1 N0 N1 x (fun w25 w26 => K (Exit.exit 2) (tx47o1o1o0 N0 N1 x w25 w26) (hx47o1o1o0 N0 N1 x w25 w26)) n i21 i22 i23
  | 0, _, _, _ => rfl
  | n + 1, i21, i22, i23 => by
    have h : ln47o1 N0 N1 (n + 1) (t47o1o1 N0 N1 x i21 i22 i23) (h47o1o1 N0 N1 x i21 i22 i23) K = (bif decide (i22 < (↑(List.length x.fst) : Int)) then (bif decide (0 ≤ i22) && decide (i22 < (↑(List.length x.fst) : Int)) then (Option.bind (x.fst[0 + i22.toNat]?) fun v24 => (bif decide (i21 = i23.length) && (decide (v24.length = v24.length) && (decide ((i21 + v24.length) * Try.prog.types[22].bytes ≤ 140737488355328) && decide (i21 + v24.length ≤ 9223372036854775807))) then ln47o1 N0 N1 n (t47o1o1 N0 N1 x (i21 + v24.length) (IntKind.i64.wrap (i22 + 1)) (i23.append v24)) (h47o1o1 N0 N1 x (i21 + v24.length) (IntKind.i64.wrap (i22 + 1)) (i23.append v24)) K else none)) else none) else K (Exit.exit 2) (tx47o1o1o0 N0 N1 x i21 i23) (hx47o1o1o0 N0 N1 x i21 i23)) := by kernel_rfl
    rw [h]
    simp only [decide_self, decide_true, Nat.zero_add, Bool.and_true, Bool.true_and, cond_true, law47o1o1, leq47o1o1 N0 N1 x K n, leq47o0]
noncomputable def t47o1o2 (N0 : Nat) (N1 : Nat) (x : Sh.Ts [(Sh.int IntKind.i64).rows]) (i37 : Nat) (i38 : Int) (i39 : List (Sh.int IntKind.i64).T) : List AV := [AV.any, AV.any, AV.any, AV.any, AV.any, AV.any, AV.slc 1 0 i37 Cap.unk, AV.any, AV.any, AV.any, AV.any, AV.any, AV.any, AV.any, AV.any, AV.any, AV.any, AV.any, AV.any, AV.any, AV.any, AV.any, AV.any, AV.any, AV.any, AV.slc 0 0 (List.length x.fst) Cap.low, AV.val (Value.int IntKind.i64 (↑(List.length x.fst) : Int)), AV.val (Value.int IntKind.i64 i38), AV.any, AV.any, AV.any, AV.any, AV.any, AV.any, AV.any, AV.any]
noncomputable def h47o1o2 (N0 : Nat) (N1 : Nat) (x : Sh.Ts [(Sh.int IntKind.i64).rows]) (i37 : Nat) (i38 : Int) (i39 : List (Sh.int IntKind.i64).T) : Heap := [Ent.live (Blk.mk (Cells.arrs (Sh.int IntKind.i64) x.fst) false none), Ent.live (Blk.mk (Cells.arr (Sh.int IntKind.i64) i39) true (some 1))]
noncomputable def tx47o1o2o0 (N0 : Nat) (N1 : Nat) (x : Sh.Ts [(Sh.int IntKind.i64).rows]) (w41 : Nat) (w42 : List (Sh.int IntKind.i64).T) : List AV := [AV.any, AV.any, AV.any, AV.any, AV.any, AV.any, AV.slc 1 0 w41 Cap.unk, AV.any, AV.any, AV.any, AV.any, AV.any, AV.any, AV.any, AV.any, AV.any, AV.any, AV.any, AV.any, AV.any, AV.any, AV.any, AV.any, AV.any, AV.any, AV.any, AV.any, AV.any, AV.any, AV.any, AV.any, AV.any, AV.any, AV.any, AV.any, AV.any]
noncomputable def hx47o1o2o0 (N0 : Nat) (N1 : Nat) (x : Sh.Ts [(Sh.int IntKind.i64).rows]) (w41 : Nat) (w42 : List (Sh.int IntKind.i64).T) : Heap := [Ent.live (Blk.mk (Cells.arrs (Sh.int IntKind.i64) x.fst) false none), Ent.live (Blk.mk (Cells.arr (Sh.int IntKind.i64) w42) true (some 1))]
noncomputable def law47o1o2 {β : Type} (N0 : Nat) (N1 : Nat) (x : ((List (List Int)) × Unit)) (k0 : Nat → List Int → Option β) : Nat → Nat → Int → List Int → Option β
  | 0, _, _, _ => none
  | n + 1, i37, i38, i39 => (bif decide (i38 < (↑(List.length x.fst) : Int)) then (bif decide (0 ≤ i38) && decide (i38 < (↑(List.length x.fst) : Int)) then (Option.bind x.fst[i38.toNat]? fun v40 => (bif decide (i37 = i39.length) && (decide ((i37 + v40.length) * Try.prog.types[22].bytes ≤ 140737488355328) && decide (i37 + v40.length ≤ 9223372036854775807)) then law47o1o2 N0 N1 x k0 n (i37 + v40.length) (IntKind.i64.wrap (i38 + 1)) (i39.append v40) else none)) else none) else k0 i37 i39)
theorem leq47o1o2 {β : Type} (N0 : Nat) (N1 : Nat) (x : Sh.Ts [(Sh.int IntKind.i64).rows]) (K : Exit → List AV → Heap → Option β) : ∀ (n : Nat) (i37 : Nat) (i38 : Int) (i39 : List (Sh.int IntKind.i64).T), ln47o1 N0 N1 n (t47o1o2 N0 N1 x i37 i38 i39) (h47o1o2 N0 N1 x i37 i38 i39) K = law47o1o2 N0 N1 x (fun w41 w42 => K (Exit.exit 2) (tx47o1o2o0 N0 N1 x w41 w42) (hx47o1o2o0 N0 N1 x w41 w42)) n i37 i38 i39
  | 0, _, _, _ => rfl
  | n + 1, i37, i38, i39 => by
    have h : ln47o1 N0 N1 (n + 1) (t47o1o2 N0 N1 x i37 i38 i39) (h47o1o2 N0 N1 x i37 i38 i39) K = (bif decide (i38 < (↑(List.length x.fst) : Int)) then (bif decide (0 ≤ i38) && decide (i38 < (↑(List.length x.fst) : Int)) then (Option.bind (x.fst[0 + i38.toNat]?) fun v40 => (bif decide (i37 = i39.length) && (decide (v40.length = v40.length) && (decide ((i37 + v40.length) * Try.prog.types[22].bytes ≤ 140737488355328) && decide (i37 + v40.length ≤ 9223372036854775807))) then ln47o1 N0 N1 n (t47o1o2 N0 N1 x (i37 + v40.length) (IntKind.i64.wrap (i38 + 1)) (i39.append v40)) (h47o1o2 N0 N1 x (i37 + v40.length) (IntKind.i64.wrap (i38 + 1)) (i39.append v40)) K else none)) else none) else K (Exit.exit 2) (tx47o1o2o0 N0 N1 x i37 i39) (hx47o1o2o0 N0 N1 x i37 i39)) := by kernel_rfl
    rw [h]
    simp only [decide_self, decide_true, Nat.zero_add, Bool.and_true, Bool.true_and, cond_true, law47o1o2, leq47o1o2 N0 N1 x K n, leq47o0, leq47o1o1]
noncomputable def t47o1o3 (N0 : Nat) (N1 : Nat) (x : Sh.Ts [(Sh.int IntKind.i64).rows]) (i53 : Nat) (i54 : Int) (i55 : List (Sh.int IntKind.i64).T) : List AV := [AV.any, AV.any, AV.any, AV.any, AV.any, AV.any, AV.slc 1 0 i53 Cap.unk, AV.any, AV.any, AV.any, AV.any, AV.any, AV.any, AV.any, AV.any, AV.any, AV.any, AV.any, AV.any, AV.any, AV.any, AV.any, AV.any, AV.any, AV.any, AV.slc 0 0 (List.length x.fst) Cap.low, AV.val (Value.int IntKind.i64 (↑(List.length x.fst) : Int)), AV.val (Value.int IntKind.i64 i54), AV.any, AV.any, AV.any, AV.any, AV.any, AV.any, AV.any, AV.any]
noncomputable def h47o1o3 (N0 : Nat) (N1 : Nat) (x : Sh.Ts [(Sh.int IntKind.i64).rows]) (i53 : Nat) (i54 : Int) (i55 : List (Sh.int IntKind.i64).T) : Heap := [Ent.live (Blk.mk (Cells.arrs (Sh.int IntKind.i64) x.fst) false none), Ent.live (Blk.mk (Cells.arr (Sh.int IntKind.i64) i55) true (some 1))]
noncomputable def tx47o1o3o0 (N0 : Nat) (N1 : Nat) (x : Sh.Ts [(Sh.int IntKind.i64).rows]) (w57 : Nat) (w58 : List (Sh.int IntKind.i64).T) : List AV := [AV.any, AV.any, AV.any, AV.any, AV.any, AV.any, AV.slc 1 0 w57 Cap.unk, AV.any, AV.any, AV.any, AV.any, AV.any, AV.any, AV.any, AV.any, AV.any, AV.any, AV.any, AV.any, AV.any, AV.any, AV.any, AV.any, AV.any, AV.any, AV.any, AV.any, AV.any, AV.any, AV.any, AV.any, AV.any, AV.any, AV.any, AV.any, AV.any]
noncomputable def hx47o1o3o0 (N0 : Nat) (N1 : Nat) (x : Sh.Ts [(Sh.int IntKind.i64).rows]) (w57 : Nat) (w58 : List (Sh.int IntKind.i64).T) : Heap := [Ent.live (Blk.mk (Cells.arrs (Sh.int IntKind.i64) x.fst) false none), Ent.live (Blk.mk (Cells.arr (Sh.int IntKind.i64) w58) true (some 1))]
noncomputable def law47o1o3 {β : Type} (N0 : Nat) (N1 : Nat) (x : ((List (List Int)) × Unit)) (k0 : Nat → List Int → Option β) : Nat → Nat → Int → List Int → Option β
  | 0, _, _, _ => none
  | n + 1, i53, i54, i55 => (bif decide (i54 < (↑(List.length x.fst) : Int)) then (bif decide (0 ≤ i54) && decide (i54 < (↑(List.length x.fst) : Int)) then (Option.bind x.fst[i54.toNat]? fun v56 => (bif decide (i53 = i55.length) && (decide ((i53 + v56.length) * Try.prog.types[22].bytes ≤ 140737488355328) && decide (i53 + v56.length ≤ 9223372036854775807)) then law47o1o3 N0 N1 x k0 n (i53 + v56.length) (IntKind.i64.wrap (i54 + 1)) (i55.append v56) else none)) else none) else k0 i53 i55)
theorem leq47o1o3 {β : Type} (N0 : Nat) (N1 : Nat) (x : Sh.Ts [(Sh.int IntKind.i64).rows]) (K : Exit → List AV → Heap → Option β) : ∀ (n : Nat) (i53 : Nat) (i54 : Int) (i55 : List (Sh.int IntKind.i64).T), ln47o1 N0 N1 n (t47o1o3 N0 N1 x i53 i54 i55) (h47o1o3 N0 N1 x i53 i54 i55) K = law47o1o3 N0 N1 x (fun w57 w58 => K (Exit.exit 2) (tx47o1o3o0 N0 N1 x w57 w58) (hx47o1o3o0 N0 N1 x w57 w58)) n i53 i54 i55
  | 0, _, _, _ => rfl
  | n + 1, i53, i54, i55 => by
    have h : ln47o1 N0 N1 (n + 1) (t47o1o3 N0 N1 x i53 i54 i55) (h47o1o3 N0 N1 x i53 i54 i55) K = (bif decide (i54 < (↑(List.length x.fst) : Int)) then (bif decide (0 ≤ i54) && decide (i54 < (↑(List.length x.fst) : Int)) then (Option.bind (x.fst[0 + i54.toNat]?) fun v56 => (bif decide (i53 = i55.length) && (decide (v56.length = v56.length) && (decide ((i53 + v56.length) * Try.prog.types[22].bytes ≤ 140737488355328) && decide (i53 + v56.length ≤ 9223372036854775807))) then ln47o1 N0 N1 n (t47o1o3 N0 N1 x (i53 + v56.length) (IntKind.i64.wrap (i54 + 1)) (i55.append v56)) (h47o1o3 N0 N1 x (i53 + v56.length) (IntKind.i64.wrap (i54 + 1)) (i55.append v56)) K else none)) else none) else K (Exit.exit 2) (tx47o1o3o0 N0 N1 x i53 i55) (hx47o1o3o0 N0 N1 x i53 i55)) := by kernel_rfl
    rw [h]
    simp only [decide_self, decide_true, Nat.zero_add, Bool.and_true, Bool.true_and, cond_true, law47o1o3, leq47o1o3 N0 N1 x K n, leq47o0, leq47o1o1, leq47o1o2]
theorem rest47o1o1o0 (N0 : Nat) (N1 : Nat) (x : Sh.Ts [(Sh.int IntKind.i64).rows]) (w27 : Nat) (w28 : List (Sh.int IntKind.i64).T) : rk47o1 N0 N1 (Exit.exit 2) (tx47o1o1o0 N0 N1 x w27 w28) (hx47o1o1o0 N0 N1 x w27 w28) = (bif decide (w27 = w28.length) then some w28 else none) := by kernel_rfl
theorem rest47o1o2o0 (N0 : Nat) (N1 : Nat) (x : Sh.Ts [(Sh.int IntKind.i64).rows]) (w43 : Nat) (w44 : List (Sh.int IntKind.i64).T) : rk47o1 N0 N1 (Exit.exit 2) (tx47o1o2o0 N0 N1 x w43 w44) (hx47o1o2o0 N0 N1 x w43 w44) = (bif decide (w43 = w44.length) then some w44 else none) := by kernel_rfl
theorem rest47o0o0 (N0 : Nat) (N1 : Nat) (x : Sh.Ts [(Sh.int IntKind.i64).rows]) (w12 : Int) : rk47o0 N0 N1 (Exit.exit 0) (tx47o0o0 N0 N1 x w12) (hx47o0o0 N0 N1 x w12) = (bif decide (w12 < 0) then none else (bif decide (IntKind.i64.wrap (w12 - IntKind.i64.wrap ((↑0 : Int) - (↑0 : Int))) > 0) then (bif decide (0 < IntKind.i64.wrap (w12 - IntKind.i64.wrap ((↑0 : Int) - (↑0 : Int)))) && (decide ((IntKind.i64.wrap (w12 - IntKind.i64.wrap ((↑0 : Int) - (↑0 : Int)))).toNat * Try.prog.types[22].bytes ≤ 140737488355328) && decide ((IntKind.i64.wrap (w12 - IntKind.i64.wrap ((↑0 : Int) - (↑0 : Int)))).toNat ≤ 9223372036854775807)) then (bif decide (0 < (↑(List.length x.fst) : Int)) then (bif decide (0 ≤ 0) && decide (0 < (↑(List.length x.fst) : Int)) then (Option.bind (x.fst[Int.toNat 0]?) fun v13 => (bif decide (((↑0 : Int).toNat + v13.length) * Try.prog.types[22].bytes ≤ 140737488355328) && decide ((↑0 : Int).toNat + v13.length ≤ 9223372036854775807) then (law47o1o1 N0 N1 x (fun w27 w28 => (bif decide (w27 = w28.length) then some w28 else none)) N1 ((↑0 : Int).toNat + v13.length) (IntKind.i64.wrap (0 + 1)) ([].append v13)) else none)) else none) else none) else none) else (bif decide (0 < (↑(List.length x.fst) : Int)) then (bif decide (0 ≤ 0) && decide (0 < (↑(List.length x.fst) : Int)) then (Option.bind (x.fst[Int.toNat 0]?) fun v29 => (bif (decide (0 = 0) || decide (0 < v29.length)) && (decide ((0 + v29.length) * Try.prog.types[22].bytes ≤ 140737488355328) && decide (0 + v29.length ≤ 9223372036854775807)) then (law47o1o2 N0 N1 x (fun w43 w44 => (bif decide (w43 = w44.length) then some w44 else none)) N1 (0 + v29.length) (IntKind.i64.wrap (0 + 1)) ([].append v29)) else none)) else none) else some []))) := by
  have h : rk47o0 N0 N1 (Exit.exit 0) (tx47o0o0 N0 N1 x w12) (hx47o0o0 N0 N1 x w12) = (bif decide (w12 < 0) then none else (bif decide (IntKind.i64.wrap (w12 - IntKind.i64.wrap ((↑0 : Int) - (↑0 : Int))) > 0) then (bif decide (0 < IntKind.i64.wrap (w12 - IntKind.i64.wrap ((↑0 : Int) - (↑0 : Int)))) && (decide ((IntKind.i64.wrap (w12 - IntKind.i64.wrap ((↑0 : Int) - (↑0 : Int)))).toNat * Try.prog.types[22].bytes ≤ 140737488355328) && decide ((IntKind.i64.wrap (w12 - IntKind.i64.wrap ((↑0 : Int) - (↑0 : Int)))).toNat ≤ 9223372036854775807)) then (bif decide (0 < (↑(List.length x.fst) : Int)) then (bif decide (0 ≤ 0) && decide (0 < (↑(List.length x.fst) : Int)) then (Option.bind (x.fst[0 + Int.toNat 0]?) fun v13 => (bif decide (v13.length = v13.length) && (decide (((↑0 : Int).toNat + v13.length) * Try.prog.types[22].bytes ≤ 140737488355328) && decide ((↑0 : Int).toNat + v13.length ≤ 9223372036854775807)) then (ln47o1 N0 N1 N1 (t47o1o1 N0 N1 x ((↑0 : Int).toNat + v13.length) (IntKind.i64.wrap (0 + 1)) ([].append v13)) (h47o1o1 N0 N1 x ((↑0 : Int).toNat + v13.length) (IntKind.i64.wrap (0 + 1)) ([].append v13)) (rk47o1 N0 N1)) else none)) else none) else none) else none) else (bif decide (0 < (↑(List.length x.fst) : Int)) then (bif decide (0 ≤ 0) && decide (0 < (↑(List.length x.fst) : Int)) then (Option.bind (x.fst[0 + Int.toNat 0]?) fun v29 => (bif decide (v29.length = v29.length) && ((decide (0 = 0) || decide (0 < v29.length)) && (decide ((0 + v29.length) * Try.prog.types[22].bytes ≤ 140737488355328) && decide (0 + v29.length ≤ 9223372036854775807))) then (ln47o1 N0 N1 N1 (t47o1o2 N0 N1 x (0 + v29.length) (IntKind.i64.wrap (0 + 1)) ([].append v29)) (h47o1o2 N0 N1 x (0 + v29.length) (IntKind.i64.wrap (0 + 1)) ([].append v29)) (rk47o1 N0 N1)) else none)) else none) else some []))) := by kernel_rfl
  rw [h]
  simp only [decide_self, decide_true, Nat.zero_add, Bool.and_true, Bool.true_and, cond_true, leq47o0, leq47o1o1, leq47o1o2, leq47o1o3, rest47o1o1o0, rest47o1o2o0]
theorem rest47o1o3o0 (N0 : Nat) (N1 : Nat) (x : Sh.Ts [(Sh.int IntKind.i64).rows]) (w59 : Nat) (w60 : List (Sh.int IntKind.i64).T) : rk47o1 N0 N1 (Exit.exit 2) (tx47o1o3o0 N0 N1 x w59 w60) (hx47o1o3o0 N0 N1 x w59 w60) = (bif decide (w59 = w60.length) then some w60 else none) := by kernel_rfl
noncomputable def law47 (N0 : Nat) (N1 : Nat) (x : ((List (List Int)) × Unit)) : Option (List Int) := (bif decide (0 < (↑(List.length x.fst) : Int)) then (bif decide (0 ≤ 0) && decide (0 < (↑(List.length x.fst) : Int)) then (Option.bind (x.fst[Int.toNat 0]?) fun v0 => (bif decide (IntKind.i64.wrap (0 + (↑v0.length : Int)) < 0) then none else (law47o0 N0 N1 x (fun w12 => (bif decide (w12 < 0) then none else (bif decide (IntKind.i64.wrap (w12 - IntKind.i64.wrap ((↑0 : Int) - (↑0 : Int))) > 0) then (bif decide (0 < IntKind.i64.wrap (w12 - IntKind.i64.wrap ((↑0 : Int) - (↑0 : Int)))) && (decide ((IntKind.i64.wrap (w12 - IntKind.i64.wrap ((↑0 : Int) - (↑0 : Int)))).toNat * Try.prog.types[22].bytes ≤ 140737488355328) && decide ((IntKind.i64.wrap (w12 - IntKind.i64.wrap ((↑0 : Int) - (↑0 : Int)))).toNat ≤ 9223372036854775807)) then (bif decide (0 < (↑(List.length x.fst) : Int)) then (bif decide (0 ≤ 0) && decide (0 < (↑(List.length x.fst) : Int)) then (Option.bind (x.fst[Int.toNat 0]?) fun v13 => (bif decide (((↑0 : Int).toNat + v13.length) * Try.prog.types[22].bytes ≤ 140737488355328) && decide ((↑0 : Int).toNat + v13.length ≤ 9223372036854775807) then (law47o1o1 N0 N1 x (fun w27 w28 => (bif decide (w27 = w28.length) then some w28 else none)) N1 ((↑0 : Int).toNat + v13.length) (IntKind.i64.wrap (0 + 1)) ([].append v13)) else none)) else none) else none) else none) else (bif decide (0 < (↑(List.length x.fst) : Int)) then (bif decide (0 ≤ 0) && decide (0 < (↑(List.length x.fst) : Int)) then (Option.bind (x.fst[Int.toNat 0]?) fun v29 => (bif (decide (0 = 0) || decide (0 < v29.length)) && (decide ((0 + v29.length) * Try.prog.types[22].bytes ≤ 140737488355328) && decide (0 + v29.length ≤ 9223372036854775807)) then (law47o1o2 N0 N1 x (fun w43 w44 => (bif decide (w43 = w44.length) then some w44 else none)) N1 (0 + v29.length) (IntKind.i64.wrap (0 + 1)) ([].append v29)) else none)) else none) else some [])))) N0 (IntKind.i64.wrap (0 + (↑v0.length : Int))) (IntKind.i64.wrap (0 + 1))))) else none) else (bif decide (0 < (↑(List.length x.fst) : Int)) then (bif decide (0 ≤ 0) && decide (0 < (↑(List.length x.fst) : Int)) then (Option.bind (x.fst[Int.toNat 0]?) fun v45 => (bif (decide (0 = 0) || decide (0 < v45.length)) && (decide ((0 + v45.length) * Try.prog.types[22].bytes ≤ 140737488355328) && decide (0 + v45.length ≤ 9223372036854775807)) then (law47o1o3 N0 N1 x (fun w59 w60 => (bif decide (w59 = w60.length) then some w60 else none)) N1 (0 + v45.length) (IntKind.i64.wrap (0 + 1)) ([].append v45)) else none)) else none) else some []))
theorem eq47 (N0 : Nat) (N1 : Nat) (x : Sh.Ts [(Sh.int IntKind.i64).rows]) : codeLawF Try.prog env47 200 (L47 N0 N1) Try.f47 c47 [.rows (.int .i64)] (.int .i64) x = law47 N0 N1 x := by
  have h : codeLawF Try.prog env47 200 (L47 N0 N1) Try.f47 c47 [.rows (.int .i64)] (.int .i64) x = (bif decide (0 < (↑(List.length x.fst) : Int)) then (bif decide (0 ≤ 0) && decide (0 < (↑(List.length x.fst) : Int)) then (Option.bind (x.fst[0 + Int.toNat 0]?) fun v0 => (bif decide (IntKind.i64.wrap (0 + (↑v0.length : Int)) < 0) then none else (ln47o0 N0 N1 N0 (t47o0 N0 N1 x (IntKind.i64.wrap (0 + (↑v0.length : Int))) (IntKind.i64.wrap (0 + 1))) (h47o0 N0 N1 x (IntKind.i64.wrap (0 + (↑v0.length : Int))) (IntKind.i64.wrap (0 + 1))) (rk47o0 N0 N1)))) else none) else (bif decide (0 < (↑(List.length x.fst) : Int)) then (bif decide (0 ≤ 0) && decide (0 < (↑(List.length x.fst) : Int)) then (Option.bind (x.fst[0 + Int.toNat 0]?) fun v45 => (bif decide (v45.length = v45.length) && ((decide (0 = 0) || decide (0 < v45.length)) && (decide ((0 + v45.length) * Try.prog.types[22].bytes ≤ 140737488355328) && decide (0 + v45.length ≤ 9223372036854775807))) then (ln47o1 N0 N1 N1 (t47o1o3 N0 N1 x (0 + v45.length) (IntKind.i64.wrap (0 + 1)) ([].append v45)) (h47o1o3 N0 N1 x (0 + v45.length) (IntKind.i64.wrap (0 + 1)) ([].append v45)) (rk47o1 N0 N1)) else none)) else none) else some [])) := by kernel_rfl
  rw [h]
  unfold law47
  simp only [decide_self, decide_true, Nat.zero_add, Bool.and_true, Bool.true_and, cond_true, leq47o0, leq47o1o1, leq47o1o2, leq47o1o3, rest47o1o1o0, rest47o1o2o0, rest47o0o0, rest47o1o3o0]
noncomputable def fn47 (x : ((List (List Int)) × Unit)) : Option (List (Int)) := law47 (10 ^ 30) (10 ^ 30) x
theorem reads47 : ReadsF Try.prog 47 [.rows (.int .i64)] (.int .i64) fn47 := (ReadsF.of_code mixed (fn := Try.f47) (c := c47) Try.func47 (by kernel_rfl) (by kernel_rfl) env47 200 (L47_fit _ _)).to (eq47 _ _)
noncomputable def s47 : Summ Try.prog := reads47.summ
/- slices.Min[[]chicane/api.Fx,chicane/api.Fx] -/
noncomputable def c48 : Code := (Try.f48.body.getD .skip)
noncomputable def env48 : Env Try.prog := []
noncomputable def b48o0 : Code := ((kid ((subAt c48 [0, 1, 0, 1, 1, 1]).getD .skip) 0).getD .skip)
noncomputable def kx48o0 : Exit → List Nat | .ret => [2] | .exit 0 => [3] | _ => []
noncomputable def Li48o0 (N0 : Nat) : Loops Try.prog := []
noncomputable def ls48o0 (N0 : Nat) : LSumm Try.prog := loopSumm mixed env48 200 (Li48o0 N0) b48o0 (Loops.fit_nil) [0, 3, 4] kx48o0 (N0)
noncomputable def ln48o0 {β : Type} (N0 : Nat) (n : Nat) (t : List AV) (h : Heap) (K : Exit → List AV → Heap → Option β) : Option β := loopN Try.prog env48 (Sh.nes [.sl (.int .i64)]) 200 (Li48o0 N0) b48o0 [0, 3, 4] kx48o0 n t h K
noncomputable def L48 (N0 : Nat) : Loops Try.prog := [([0, 1, 0, 1, 1, 1], ls48o0 N0)]
theorem L48_fit (N0 : Nat) : (L48 N0).fit c48 := Loops.fit_cons (by kernel_rfl) (Loops.fit_nil)
noncomputable def K48 : Exit → List AV → Heap → Option (Sh.Ts [.int .i64]) := fun e t h => outK (P := Try.prog) Try.f48 [.int .i64] e t h
noncomputable def rk48o0 (N0 : Nat) : Exit → List AV → Heap → Option (Sh.Ts [.int .i64]) := (blkK 0 (seqK Try.prog env48 (Sh.nes [.sl (.int .i64)]) 196 (L48 N0) [1, 1, 1, 1] ((subAt c48 [1, 1, 1, 1]).getD .skip) K48))
noncomputable def t48o0 (N0 : Nat) (x : Sh.Ts [(Sh.int IntKind.i64).sl]) (i6 : (Sh.int IntKind.i64).T) (i7 : Int) : List AV := [AV.slc 0 0 (List.length x.fst) Cap.low, AV.any, AV.any, AV.val (Value.int IntKind.i64 i6), AV.val (Value.int IntKind.i64 i7), AV.any, AV.any, AV.any, AV.any, AV.any, AV.any, AV.any, AV.any, AV.any, AV.any, AV.any, AV.any, AV.any, AV.any, AV.any, AV.any, AV.any, AV.any, AV.any, AV.any]
noncomputable def h48o0 (N0 : Nat) (x : Sh.Ts [(Sh.int IntKind.i64).sl]) (i6 : (Sh.int IntKind.i64).T) (i7 : Int) : Heap := [Ent.live (Blk.mk (Cells.arr (Sh.int IntKind.i64) x.fst) false none)]
noncomputable def tx48o0o0 (N0 : Nat) (x : Sh.Ts [(Sh.int IntKind.i64).sl]) (w9 : (Sh.int IntKind.i64).T) : List AV := [AV.any, AV.any, AV.any, AV.val (Value.int IntKind.i64 w9), AV.any, AV.any, AV.any, AV.any, AV.any, AV.any, AV.any, AV.any, AV.any, AV.any, AV.any, AV.any, AV.any, AV.any, AV.any, AV.any, AV.any, AV.any, AV.any, AV.any, AV.any]
noncomputable def hx48o0o0 (N0 : Nat) (x : Sh.Ts [(Sh.int IntKind.i64).sl]) (w9 : (Sh.int IntKind.i64).T) : Heap := [Ent.live (Blk.mk (Cells.arr (Sh.int IntKind.i64) x.fst) false none)]
noncomputable def law48o0 {β : Type} (N0 : Nat) (x : ((List Int) × Unit)) (k0 : Int → Option β) : Nat → Int → Int → Option β
  | 0, _, _ => none
  | n + 1, i6, i7 => (bif decide (i7 < (↑(List.length x.fst) : Int)) then (bif decide (0 ≤ i7) && decide (i7 < (↑(List.length x.fst) : Int)) then (Option.bind x.fst[i7.toNat]? fun v8 => law48o0 N0 x k0 n (if v8 < i6 then v8 else i6) (IntKind.i64.wrap (i7 + 1))) else none) else k0 i6)
theorem leq48o0 {β : Type} (N0 : Nat) (x : Sh.Ts [(Sh.int IntKind.i64).sl]) (K : Exit → List AV → Heap → Option β) : ∀ (n : Nat) (i6 : (Sh.int IntKind.i64).T) (i7 : Int), ln48o0 N0 n (t48o0 N0 x i6 i7) (h48o0 N0 x i6 i7) K = law48o0 N0 x (fun w9 => K (Exit.exit 0) (tx48o0o0 N0 x w9) (hx48o0o0 N0 x w9)) n i6 i7
  | 0, _, _ => rfl
  | n + 1, i6, i7 => by
    have h : ln48o0 N0 (n + 1) (t48o0 N0 x i6 i7) (h48o0 N0 x i6 i7) K = (bif decide (i7 < (↑(List.length x.fst) : Int)) then (bif decide (0 ≤ i7) && decide (i7 < (↑(List.length x.fst) : Int)) then (Option.bind (x.fst[0 + i7.toNat]?) fun v8 => ln48o0 N0 n (t48o0 N0 x (if v8 < i6 then v8 else i6) (IntKind.i64.wrap (i7 + 1))) (h48o0 N0 x (if v8 < i6 then v8 else i6) (IntKind.i64.wrap (i7 + 1))) K) else none) else K (Exit.exit 0) (tx48o0o0 N0 x i6) (hx48o0o0 N0 x i6)) := by kernel_rfl
    rw [h]
    simp only [decide_self, decide_true, Nat.zero_add, Bool.and_true, Bool.true_and, cond_true, law48o0, leq48o0 N0 x K n]
theorem rest48o0o0 (N0 : Nat) (x : Sh.Ts [(Sh.int IntKind.i64).sl]) (w10 : (Sh.int IntKind.i64).T) : rk48o0 N0 (Exit.exit 0) (tx48o0o0 N0 x w10) (hx48o0o0 N0 x w10) = some ((w10, ())) := by kernel_rfl
noncomputable def law48 (N0 : Nat) (x : ((List Int) × Unit)) : Option ((Int × Unit)) := (bif decide ((↑(List.length x.fst) : Int) < 1) then none else (bif decide (0 ≤ 0) && decide (0 < (↑(List.length x.fst) : Int)) then (Option.bind (x.fst[Int.toNat 0]?) fun v0 => (law48o0 N0 x (fun w10 => some ((w10, ()))) N0 v0 1)) else none))
theorem eq48 (N0 : Nat) (x : Sh.Ts [(Sh.int IntKind.i64).sl]) : codeLaw Try.prog env48 200 (L48 N0) Try.f48 c48 [.sl (.int .i64)] [.int .i64] x = law48 N0 x := by
  have h : codeLaw Try.prog env48 200 (L48 N0) Try.f48 c48 [.sl (.int .i64)] [.int .i64] x = (bif decide ((↑(List.length x.fst) : Int) < 1) then none else (bif decide (0 ≤ 0) && decide (0 < (↑(List.length x.fst) : Int)) then (Option.bind (x.fst[0 + Int.toNat 0]?) fun v0 => (ln48o0 N0 N0 (t48o0 N0 x v0 1) (h48o0 N0 x v0 1) (rk48o0 N0))) else none)) := by kernel_rfl
  rw [h]
  unfold law48
  simp only [decide_self, decide_true, Nat.zero_add, Bool.and_true, Bool.true_and, cond_true, leq48o0, rest48o0o0]
noncomputable def fn48 (x : ((List Int) × Unit)) : Option ((Int × Unit)) := law48 (10 ^ 30) x
theorem reads48 : Reads Try.prog 48 [.sl (.int .i64)] [.int .i64] fn48 := (Reads.of_code mixed (fn := Try.f48) (c := c48) Try.func48 (by kernel_rfl) (by kernel_rfl) env48 200 (L48_fit _) (by kernel_rfl)).to (eq48 _)
noncomputable def s48 : Summ Try.prog := reads48.summ
/- slices.Max[[]chicane/api.Fx,chicane/api.Fx] -/
noncomputable def c49 : Code := (Try.f49.body.getD .skip)
noncomputable def env49 : Env Try.prog := []
noncomputable def b49o0 : Code := ((kid ((subAt c49 [0, 1, 0, 1, 1, 1]).getD .skip) 0).getD .skip)
noncomputable def kx49o0 : Exit → List Nat | .ret => [2] | .exit 0 => [3] | _ => []
noncomputable def Li49o0 (N0 : Nat) : Loops Try.prog := []
noncomputable def ls49o0 (N0 : Nat) : LSumm Try.prog := loopSumm mixed env49 200 (Li49o0 N0) b49o0 (Loops.fit_nil) [0, 3, 4] kx49o0 (N0)
noncomputable def ln49o0 {β : Type} (N0 : Nat) (n : Nat) (t : List AV) (h : Heap) (K : Exit → List AV → Heap → Option β) : Option β := loopN Try.prog env49 (Sh.nes [.sl (.int .i64)]) 200 (Li49o0 N0) b49o0 [0, 3, 4] kx49o0 n t h K
noncomputable def L49 (N0 : Nat) : Loops Try.prog := [([0, 1, 0, 1, 1, 1], ls49o0 N0)]
theorem L49_fit (N0 : Nat) : (L49 N0).fit c49 := Loops.fit_cons (by kernel_rfl) (Loops.fit_nil)
noncomputable def K49 : Exit → List AV → Heap → Option (Sh.Ts [.int .i64]) := fun e t h => outK (P := Try.prog) Try.f49 [.int .i64] e t h
noncomputable def rk49o0 (N0 : Nat) : Exit → List AV → Heap → Option (Sh.Ts [.int .i64]) := (blkK 0 (seqK Try.prog env49 (Sh.nes [.sl (.int .i64)]) 196 (L49 N0) [1, 1, 1, 1] ((subAt c49 [1, 1, 1, 1]).getD .skip) K49))
noncomputable def t49o0 (N0 : Nat) (x : Sh.Ts [(Sh.int IntKind.i64).sl]) (i6 : (Sh.int IntKind.i64).T) (i7 : Int) : List AV := [AV.slc 0 0 (List.length x.fst) Cap.low, AV.any, AV.any, AV.val (Value.int IntKind.i64 i6), AV.val (Value.int IntKind.i64 i7), AV.any, AV.any, AV.any, AV.any, AV.any, AV.any, AV.any, AV.any, AV.any, AV.any, AV.any, AV.any, AV.any, AV.any, AV.any, AV.any, AV.any, AV.any, AV.any, AV.any]
noncomputable def h49o0 (N0 : Nat) (x : Sh.Ts [(Sh.int IntKind.i64).sl]) (i6 : (Sh.int IntKind.i64).T) (i7 : Int) : Heap := [Ent.live (Blk.mk (Cells.arr (Sh.int IntKind.i64) x.fst) false none)]
noncomputable def tx49o0o0 (N0 : Nat) (x : Sh.Ts [(Sh.int IntKind.i64).sl]) (w9 : (Sh.int IntKind.i64).T) : List AV := [AV.any, AV.any, AV.any, AV.val (Value.int IntKind.i64 w9), AV.any, AV.any, AV.any, AV.any, AV.any, AV.any, AV.any, AV.any, AV.any, AV.any, AV.any, AV.any, AV.any, AV.any, AV.any, AV.any, AV.any, AV.any, AV.any, AV.any, AV.any]
noncomputable def hx49o0o0 (N0 : Nat) (x : Sh.Ts [(Sh.int IntKind.i64).sl]) (w9 : (Sh.int IntKind.i64).T) : Heap := [Ent.live (Blk.mk (Cells.arr (Sh.int IntKind.i64) x.fst) false none)]
noncomputable def law49o0 {β : Type} (N0 : Nat) (x : ((List Int) × Unit)) (k0 : Int → Option β) : Nat → Int → Int → Option β
  | 0, _, _ => none
  | n + 1, i6, i7 => (bif decide (i7 < (↑(List.length x.fst) : Int)) then (bif decide (0 ≤ i7) && decide (i7 < (↑(List.length x.fst) : Int)) then (Option.bind x.fst[i7.toNat]? fun v8 => law49o0 N0 x k0 n (if v8 > i6 then v8 else i6) (IntKind.i64.wrap (i7 + 1))) else none) else k0 i6)
theorem leq49o0 {β : Type} (N0 : Nat) (x : Sh.Ts [(Sh.int IntKind.i64).sl]) (K : Exit → List AV → Heap → Option β) : ∀ (n : Nat) (i6 : (Sh.int IntKind.i64).T) (i7 : Int), ln49o0 N0 n (t49o0 N0 x i6 i7) (h49o0 N0 x i6 i7) K = law49o0 N0 x (fun w9 => K (Exit.exit 0) (tx49o0o0 N0 x w9) (hx49o0o0 N0 x w9)) n i6 i7
  | 0, _, _ => rfl
  | n + 1, i6, i7 => by
    have h : ln49o0 N0 (n + 1) (t49o0 N0 x i6 i7) (h49o0 N0 x i6 i7) K = (bif decide (i7 < (↑(List.length x.fst) : Int)) then (bif decide (0 ≤ i7) && decide (i7 < (↑(List.length x.fst) : Int)) then (Option.bind (x.fst[0 + i7.toNat]?) fun v8 => ln49o0 N0 n (t49o0 N0 x (if v8 > i6 then v8 else i6) (IntKind.i64.wrap (i7 + 1))) (h49o0 N0 x (if v8 > i6 then v8 else i6) (IntKind.i64.wrap (i7 + 1))) K) else none) else K (Exit.exit 0) (tx49o0o0 N0 x i6) (hx49o0o0 N0 x i6)) := by kernel_rfl
    rw [h]
    simp only [decide_self, decide_true, Nat.zero_add, Bool.and_true, Bool.true_and, cond_true, law49o0, leq49o0 N0 x K n]
theorem rest49o0o0 (N0 : Nat) (x : Sh.Ts [(Sh.int IntKind.i64).sl]) (w10 : (Sh.int IntKind.i64).T) : rk49o0 N0 (Exit.exit 0) (tx49o0o0 N0 x w10) (hx49o0o0 N0 x w10) = some ((w10, ())) := by kernel_rfl
noncomputable def law49 (N0 : Nat) (x : ((List Int) × Unit)) : Option ((Int × Unit)) := (bif decide ((↑(List.length x.fst) : Int) < 1) then none else (bif decide (0 ≤ 0) && decide (0 < (↑(List.length x.fst) : Int)) then (Option.bind (x.fst[Int.toNat 0]?) fun v0 => (law49o0 N0 x (fun w10 => some ((w10, ()))) N0 v0 1)) else none))
theorem eq49 (N0 : Nat) (x : Sh.Ts [(Sh.int IntKind.i64).sl]) : codeLaw Try.prog env49 200 (L49 N0) Try.f49 c49 [.sl (.int .i64)] [.int .i64] x = law49 N0 x := by
  have h : codeLaw Try.prog env49 200 (L49 N0) Try.f49 c49 [.sl (.int .i64)] [.int .i64] x = (bif decide ((↑(List.length x.fst) : Int) < 1) then none else (bif decide (0 ≤ 0) && decide (0 < (↑(List.length x.fst) : Int)) then (Option.bind (x.fst[0 + Int.toNat 0]?) fun v0 => (ln49o0 N0 N0 (t49o0 N0 x v0 1) (h49o0 N0 x v0 1) (rk49o0 N0))) else none)) := by kernel_rfl
  rw [h]
  unfold law49
  simp only [decide_self, decide_true, Nat.zero_add, Bool.and_true, Bool.true_and, cond_true, leq49o0, rest49o0o0]
noncomputable def fn49 (x : ((List Int) × Unit)) : Option ((Int × Unit)) := law49 (10 ^ 30) x
theorem reads49 : Reads Try.prog 49 [.sl (.int .i64)] [.int .i64] fn49 := (Reads.of_code mixed (fn := Try.f49) (c := c49) Try.func49 (by kernel_rfl) (by kernel_rfl) env49 200 (L49_fit _) (by kernel_rfl)).to (eq49 _)
noncomputable def s49 : Summ Try.prog := reads49.summ
/- chicane/pane.Bounds -/
noncomputable def c37 : Code := (Try.f37.body.getD .skip)
noncomputable def env37 : Env Try.prog := [s36, s47, s48, s49]
noncomputable def L37 : Loops Try.prog := []
theorem L37_fit : (L37).fit c37 := Loops.fit_nil
noncomputable def law37 (x : (PaneT × Unit)) : Option ((Int × Int × Unit)) := (Option.bind (fn36 x) fun v0 => (bif v0.fst != 0 then some ((0, 0, ())) else (Option.bind (fn47 x.fst.snd.snd) fun v1 => (Option.bind (fn48 (v1, ())) fun v2 => (Option.bind (fn49 (v1, ())) fun v3 => some ((v2.fst, v3.fst, ())))))))
theorem eq37 (x : Sh.Ts [PaneSh]) : codeLaw Try.prog env37 200 (L37) Try.f37 c37 [PaneSh] [.int .i64, .int .i64] x = law37 x := by
  have h : codeLaw Try.prog env37 200 (L37) Try.f37 c37 [PaneSh] [.int .i64, .int .i64] x = (bif decide (List.length x.fst.fst = List.length x.fst.fst) && (decide (List.length x.fst.snd.fst = List.length x.fst.snd.fst) && (decide (List.length x.fst.snd.snd.fst = List.length x.fst.snd.snd.fst) && true)) && true then (Option.bind (fn36 x) fun v0 => (bif v0.fst != 0 then some ((0, 0, ())) else (bif decide (List.length x.fst.snd.snd.fst = List.length x.fst.snd.snd.fst) && true then (Option.bind (fn47 x.fst.snd.snd) fun v1 => (bif decide (v1.length = v1.length) && true then (Option.bind (fn48 (v1, ())) fun v2 => (bif decide (v1.length = v1.length) && true then (Option.bind (fn49 (v1, ())) fun v3 => some ((v2.fst, v3.fst, ()))) else none)) else none)) else none))) else none) := by kernel_rfl
  rw [h]
  unfold law37
  simp only [decide_self, decide_true, Nat.zero_add, Bool.and_true, Bool.true_and, cond_true]
noncomputable def fn37 (x : (PaneT × Unit)) : Option ((Int × Int × Unit)) := law37 x
theorem reads37 : Reads Try.prog 37 [PaneSh] [.int .i64, .int .i64] fn37 := (Reads.of_code mixed (fn := Try.f37) (c := c37) Try.func37 (by kernel_rfl) (by kernel_rfl) env37 200 (L37_fit) (by kernel_rfl)).to (eq37)
noncomputable def s37 : Summ Try.prog := reads37.summ
/- chicane/car.tyre -/
noncomputable def c27 : Code := (Try.f27.body.getD .skip)
noncomputable def env27 : Env Try.prog := [s36, s37, s24]
noncomputable def L27 : Loops Try.prog := []
theorem L27_fit : (L27).fit c27 := Loops.fit_nil
noncomputable def law27 (x : (PaneT × Unit)) : Option ((Int × Unit)) := (Option.bind (fn36 x) fun v0 => (bif v0.fst != 0 then some ((v0.fst, ())) else (Option.bind (fn37 x) fun v1 => (bif decide (0 ≤ 0) && decide (0 < (↑(List.length x.fst.fst) : Int)) then (Option.bind (x.fst.fst[Int.toNat 0]?) fun v2 => (bif decide (0 ≤ 0) && decide (0 < (↑(List.length x.fst.snd.fst) : Int)) then (Option.bind (x.fst.snd.fst[Int.toNat 0]?) fun v3 => (Option.bind (fn24 ([(if v1.fst < if v3 < v2 then v3 else v2 then v1.fst else if v3 < v2 then v3 else v2, 0, 18014398509481984, ()), (v1.snd.fst, 0, 17179869184, ())], ())) fun v4 => some ((v4.fst, ())))) else none)) else none))))
theorem eq27 (x : Sh.Ts [PaneSh]) : codeLaw Try.prog env27 200 (L27) Try.f27 c27 [PaneSh] [.int .i64] x = law27 x := by
  have h : codeLaw Try.prog env27 200 (L27) Try.f27 c27 [PaneSh] [.int .i64] x = (bif decide (List.length x.fst.fst = List.length x.fst.fst) && (decide (List.length x.fst.snd.fst = List.length x.fst.snd.fst) && (decide (List.length x.fst.snd.snd.fst = List.length x.fst.snd.snd.fst) && true)) && true then (Option.bind (fn36 x) fun v0 => (bif v0.fst != 0 then some ((v0.fst, ())) else (bif decide (List.length x.fst.fst = List.length x.fst.fst) && (decide (List.length x.fst.snd.fst = List.length x.fst.snd.fst) && (decide (List.length x.fst.snd.snd.fst = List.length x.fst.snd.snd.fst) && true)) && true then (Option.bind (fn37 x) fun v1 => (bif decide (0 ≤ 0) && decide (0 < (↑(List.length x.fst.fst) : Int)) then (Option.bind (x.fst.fst[0 + Int.toNat 0]?) fun v2 => (bif decide (0 ≤ 0) && decide (0 < (↑(List.length x.fst.snd.fst) : Int)) then (Option.bind (x.fst.snd.fst[0 + Int.toNat 0]?) fun v3 => (Option.bind (fn24 ([(if v1.fst < if v3 < v2 then v3 else v2 then v1.fst else if v3 < v2 then v3 else v2, 0, 18014398509481984, ()), (v1.snd.fst, 0, 17179869184, ())], ())) fun v4 => some ((v4.fst, ())))) else none)) else none)) else none))) else none) := by kernel_rfl
  rw [h]
  unfold law27
  simp only [decide_self, decide_true, Nat.zero_add, Bool.and_true, Bool.true_and, cond_true]
noncomputable def fn27 (x : (PaneT × Unit)) : Option ((Int × Unit)) := law27 x
theorem reads27 : Reads Try.prog 27 [PaneSh] [.int .i64] fn27 := (Reads.of_code mixed (fn := Try.f27) (c := c27) Try.func27 (by kernel_rfl) (by kernel_rfl) env27 200 (L27_fit) (by kernel_rfl)).to (eq27)
noncomputable def s27 : Summ Try.prog := reads27.summ
/- chicane/car.above -/
noncomputable def c39 : Code := (Try.f39.body.getD .skip)
noncomputable def env39 : Env Try.prog := []
noncomputable def L39 : Loops Try.prog := []
theorem L39_fit : (L39).fit c39 := Loops.fit_nil
noncomputable def law39 (x : (Int × Int × Unit)) : Option ((Int × Unit)) := (bif decide (x.fst ≤ x.snd.fst) then some ((41, ())) else some ((0, ())))
theorem eq39 (x : Sh.Ts [Sh.int IntKind.i64, Sh.int IntKind.i64]) : codeLaw Try.prog env39 200 (L39) Try.f39 c39 [.int .i64, .int .i64] [.int .i64] x = law39 x := by kernel_rfl
noncomputable def fn39 (x : (Int × Int × Unit)) : Option ((Int × Unit)) := law39 x
theorem reads39 : Reads Try.prog 39 [.int .i64, .int .i64] [.int .i64] fn39 := (Reads.of_code mixed (fn := Try.f39) (c := c39) Try.func39 (by kernel_rfl) (by kernel_rfl) env39 200 (L39_fit) (by kernel_rfl)).to (eq39)
noncomputable def s39 : Summ Try.prog := reads39.summ
/- chicane/car.first -/
noncomputable def c38 : Code := (Try.f38.body.getD .skip)
noncomputable def env38 : Env Try.prog := []
noncomputable def b38o0 : Code := ((kid ((subAt c38 [0, 1, 0, 1]).getD .skip) 0).getD .skip)
noncomputable def kx38o0 : Exit → List Nat | .ret => [2] | _ => []
noncomputable def Li38o0 (N0 : Nat) : Loops Try.prog := []
noncomputable def ls38o0 (N0 : Nat) : LSumm Try.prog := loopSumm mixed env38 200 (Li38o0 N0) b38o0 (Loops.fit_nil) [5, 6, 7] kx38o0 (N0)
noncomputable def ln38o0 {β : Type} (N0 : Nat) (n : Nat) (t : List AV) (h : Heap) (K : Exit → List AV → Heap → Option β) : Option β := loopN Try.prog env38 (Sh.nes [.sl (.int .i64)]) 200 (Li38o0 N0) b38o0 [5, 6, 7] kx38o0 n t h K
noncomputable def L38 (N0 : Nat) : Loops Try.prog := [([0, 1, 0, 1], ls38o0 N0)]
theorem L38_fit (N0 : Nat) : (L38 N0).fit c38 := Loops.fit_cons (by kernel_rfl) (Loops.fit_nil)
noncomputable def K38 : Exit → List AV → Heap → Option (Sh.Ts [.int .i64]) := fun e t h => outK (P := Try.prog) Try.f38 [.int .i64] e t h
noncomputable def rk38o0 (N0 : Nat) : Exit → List AV → Heap → Option (Sh.Ts [.int .i64]) := (blkK 0 (seqK Try.prog env38 (Sh.nes [.sl (.int .i64)]) 198 (L38 N0) [1, 1] ((subAt c38 [1, 1]).getD .skip) K38))
noncomputable def t38o0 (N0 : Nat) (x : Sh.Ts [(Sh.int IntKind.i64).sl]) (i5 : Int) : List AV := [AV.any, AV.any, AV.any, AV.any, AV.any, AV.slc 0 0 (List.length x.fst) Cap.low, AV.val (Value.int IntKind.i64 (↑(List.length x.fst) : Int)), AV.val (Value.int IntKind.i64 i5), AV.any, AV.any, AV.any, AV.any, AV.any, AV.any, AV.any]
noncomputable def h38o0 (N0 : Nat) (x : Sh.Ts [(Sh.int IntKind.i64).sl]) (i5 : Int) : Heap := [Ent.live (Blk.mk (Cells.arr (Sh.int IntKind.i64) x.fst) false none)]
noncomputable def tx38o0o0 (N0 : Nat) (x : Sh.Ts [(Sh.int IntKind.i64).sl]) (w7 : (Sh.int IntKind.i64).T) : List AV := [AV.any, AV.any, AV.val (Value.int IntKind.i64 w7), AV.any, AV.any, AV.any, AV.any, AV.any, AV.any, AV.any, AV.any, AV.any, AV.any, AV.any, AV.any]
noncomputable def hx38o0o0 (N0 : Nat) (x : Sh.Ts [(Sh.int IntKind.i64).sl]) (w7 : (Sh.int IntKind.i64).T) : Heap := [Ent.live (Blk.mk (Cells.arr (Sh.int IntKind.i64) x.fst) false none)]
noncomputable def tx38o0o1 (N0 : Nat) (x : Sh.Ts [(Sh.int IntKind.i64).sl]) : List AV := [AV.any, AV.any, AV.any, AV.any, AV.any, AV.any, AV.any, AV.any, AV.any, AV.any, AV.any, AV.any, AV.any, AV.any, AV.any]
noncomputable def hx38o0o1 (N0 : Nat) (x : Sh.Ts [(Sh.int IntKind.i64).sl]) : Heap := [Ent.live (Blk.mk (Cells.arr (Sh.int IntKind.i64) x.fst) false none)]
noncomputable def law38o0 {β : Type} (N0 : Nat) (x : ((List Int) × Unit)) (k0 : Int → Option β) (k1 : Option β) : Nat → Int → Option β
  | 0, _ => none
  | n + 1, i5 => (bif decide (i5 < (↑(List.length x.fst) : Int)) then (bif decide (0 ≤ i5) && decide (i5 < (↑(List.length x.fst) : Int)) then (Option.bind x.fst[i5.toNat]? fun v6 => (bif v6 != 0 then k0 v6 else law38o0 N0 x k0 k1 n (IntKind.i64.wrap (i5 + 1)))) else none) else k1)
theorem leq38o0 {β : Type} (N0 : Nat) (x : Sh.Ts [(Sh.int IntKind.i64).sl]) (K : Exit → List AV → Heap → Option β) : ∀ (n : Nat) (i5 : Int), ln38o0 N0 n (t38o0 N0 x i5) (h38o0 N0 x i5) K = law38o0 N0 x (fun w7 => K (Exit.ret) (tx38o0o0 N0 x w7) (hx38o0o0 N0 x w7)) (K (Exit.exit 0) (tx38o0o1 N0 x) (hx38o0o1 N0 x)) n i5
  | 0, _ => rfl
  | n + 1, i5 => by
    have h : ln38o0 N0 (n + 1) (t38o0 N0 x i5) (h38o0 N0 x i5) K = (bif decide (i5 < (↑(List.length x.fst) : Int)) then (bif decide (0 ≤ i5) && decide (i5 < (↑(List.length x.fst) : Int)) then (Option.bind (x.fst[0 + i5.toNat]?) fun v6 => (bif v6 != 0 then K (Exit.ret) (tx38o0o0 N0 x v6) (hx38o0o0 N0 x v6) else ln38o0 N0 n (t38o0 N0 x (IntKind.i64.wrap (i5 + 1))) (h38o0 N0 x (IntKind.i64.wrap (i5 + 1))) K)) else none) else K (Exit.exit 0) (tx38o0o1 N0 x) (hx38o0o1 N0 x)) := by kernel_rfl
    rw [h]
    simp only [decide_self, decide_true, Nat.zero_add, Bool.and_true, Bool.true_and, cond_true, law38o0, leq38o0 N0 x K n]
theorem rest38o0o0 (N0 : Nat) (x : Sh.Ts [(Sh.int IntKind.i64).sl]) (w8 : (Sh.int IntKind.i64).T) : rk38o0 N0 (Exit.ret) (tx38o0o0 N0 x w8) (hx38o0o0 N0 x w8) = some ((w8, ())) := by kernel_rfl
theorem rest38o0o1 (N0 : Nat) (x : Sh.Ts [(Sh.int IntKind.i64).sl]) : rk38o0 N0 (Exit.exit 0) (tx38o0o1 N0 x) (hx38o0o1 N0 x) = some ((0, ())) := by kernel_rfl
noncomputable def law38 (N0 : Nat) (x : ((List Int) × Unit)) : Option ((Int × Unit)) := (law38o0 N0 x (fun w8 => some ((w8, ()))) (some ((0, ()))) N0 0)
theorem eq38 (N0 : Nat) (x : Sh.Ts [(Sh.int IntKind.i64).sl]) : codeLaw Try.prog env38 200 (L38 N0) Try.f38 c38 [.sl (.int .i64)] [.int .i64] x = law38 N0 x := by
  have h : codeLaw Try.prog env38 200 (L38 N0) Try.f38 c38 [.sl (.int .i64)] [.int .i64] x = (ln38o0 N0 N0 (t38o0 N0 x 0) (h38o0 N0 x 0) (rk38o0 N0)) := by kernel_rfl
  rw [h]
  unfold law38
  simp only [decide_self, decide_true, Nat.zero_add, Bool.and_true, Bool.true_and, cond_true, leq38o0, rest38o0o0, rest38o0o1]
noncomputable def fn38 (x : ((List Int) × Unit)) : Option ((Int × Unit)) := law38 (10 ^ 30) x
theorem reads38 : Reads Try.prog 38 [.sl (.int .i64)] [.int .i64] fn38 := (Reads.of_code mixed (fn := Try.f38) (c := c38) Try.func38 (by kernel_rfl) (by kernel_rfl) env38 200 (L38_fit _) (by kernel_rfl)).to (eq38 _)
noncomputable def s38 : Summ Try.prog := reads38.summ
/- chicane/car.engine -/
noncomputable def c29 : Code := (Try.f29.body.getD .skip)
noncomputable def env29 : Env Try.prog := [s24, s39, s38]
noncomputable def L29 : Loops Try.prog := []
theorem L29_fit : (L29).fit c29 := Loops.fit_nil
noncomputable def law29 (x : (CarT × Unit)) : Option ((Int × Unit)) := (Option.bind (fn24 ([(x.fst.snd.snd.snd.snd.snd.snd.snd.snd.fst, 0, 17179869184, ()), (x.fst.snd.snd.snd.snd.snd.snd.snd.snd.snd.fst, 67108864, 68719476736, ()), (x.fst.snd.snd.snd.snd.snd.snd.snd.snd.snd.snd.fst, 137438953472, 2199023255552, ()), (x.fst.snd.snd.snd.snd.snd.snd.snd.snd.snd.snd.snd.fst, 274877906944, 8796093022208, ()), (x.fst.snd.snd.snd.snd.snd.snd.snd.snd.snd.snd.snd.snd.fst, 0, 4294967296, ()), (x.fst.snd.snd.snd.snd.snd.snd.snd.snd.snd.snd.snd.snd.snd.fst, 4294967296, 1099511627776, ()), (x.fst.snd.snd.snd.snd.snd.snd.snd.snd.snd.snd.snd.snd.snd.snd.fst, 0, 17592186044416, ())], ())) fun v0 => (Option.bind (fn39 (x.fst.snd.snd.snd.snd.snd.snd.snd.snd.snd.snd.snd.fst, x.fst.snd.snd.snd.snd.snd.snd.snd.snd.snd.snd.fst, ())) fun v1 => (Option.bind (fn38 ([v0.fst, v1.fst], ())) fun v2 => some ((v2.fst, ())))))
theorem eq29 (x : Sh.Ts [CarSh]) : codeLaw Try.prog env29 200 (L29) Try.f29 c29 [CarSh] [.int .i64] x = law29 x := by kernel_rfl
noncomputable def fn29 (x : (CarT × Unit)) : Option ((Int × Unit)) := law29 x
theorem reads29 : Reads Try.prog 29 [CarSh] [.int .i64] fn29 := (Reads.of_code mixed (fn := Try.f29) (c := c29) Try.func29 (by kernel_rfl) (by kernel_rfl) env29 200 (L29_fit) (by kernel_rfl)).to (eq29)
noncomputable def s29 : Summ Try.prog := reads29.summ
/- chicane/car.gears -/
noncomputable def c30 : Code := (Try.f30.body.getD .skip)
noncomputable def env30 : Env Try.prog := [s24]
noncomputable def b30o0 : Code := ((kid ((subAt c30 [0, 1, 0, 1, 1, 1]).getD .skip) 0).getD .skip)
noncomputable def kx30o0 : Exit → List Nat | .ret => [2] | .exit 0 => [3] | _ => []
noncomputable def Li30o0 (N0 : Nat) : Loops Try.prog := []
noncomputable def ls30o0 (N0 : Nat) : LSumm Try.prog := loopSumm mixed env30 200 (Li30o0 N0) b30o0 (Loops.fit_nil) [3, 24, 25, 26] kx30o0 (Nat.succ N0)
noncomputable def ln30o0 {β : Type} (N0 : Nat) (n : Nat) (t : List AV) (h : Heap) (K : Exit → List AV → Heap → Option β) : Option β := loopN Try.prog env30 (Sh.nes [CarSh]) 200 (Li30o0 N0) b30o0 [3, 24, 25, 26] kx30o0 n t h K
noncomputable def L30 (N0 : Nat) : Loops Try.prog := [([0, 1, 0, 1, 1, 1], ls30o0 N0)]
theorem L30_fit (N0 : Nat) : (L30 N0).fit c30 := Loops.fit_cons (by kernel_rfl) (Loops.fit_nil)
noncomputable def K30 : Exit → List AV → Heap → Option (Sh.Ts [.int .i64]) := fun e t h => outK (P := Try.prog) Try.f30 [.int .i64] e t h
noncomputable def rk30o0 (N0 : Nat) : Exit → List AV → Heap → Option (Sh.Ts [.int .i64]) := (blkK 0 (seqK Try.prog env30 (Sh.nes [CarSh]) 196 (L30 N0) [1, 1, 1, 1] ((subAt c30 [1, 1, 1, 1]).getD .skip) K30))
noncomputable def t30o0 (N0 : Nat) (x : Sh.Ts [CarSh]) (i14 : Nat) (i15 : Int) (i16 : List (Sh.st [Sh.int IntKind.i64, Sh.int IntKind.i64, Sh.int IntKind.i64]).T) : List AV := [AV.any, AV.any, AV.any, AV.slc 7 0 i14 Cap.unk, AV.any, AV.any, AV.any, AV.any, AV.any, AV.any, AV.any, AV.any, AV.any, AV.any, AV.any, AV.any, AV.any, AV.any, AV.any, AV.any, AV.any, AV.any, AV.any, AV.any, AV.slc 6 0 (List.length x.fst.snd.snd.snd.snd.snd.snd.snd.snd.snd.snd.snd.snd.snd.snd.snd.snd.fst) Cap.low, AV.val (Value.int IntKind.i64 (↑(List.length x.fst.snd.snd.snd.snd.snd.snd.snd.snd.snd.snd.snd.snd.snd.snd.snd.snd.fst) : Int)), AV.val (Value.int IntKind.i64 i15), AV.any, AV.any, AV.any, AV.any, AV.any, AV.any, AV.any, AV.any, AV.any, AV.any, AV.any]
noncomputable def h30o0 (N0 : Nat) (x : Sh.Ts [CarSh]) (i14 : Nat) (i15 : Int) (i16 : List (Sh.st [Sh.int IntKind.i64, Sh.int IntKind.i64, Sh.int IntKind.i64]).T) : Heap := [Ent.live (Blk.mk (Cells.arr (Sh.st [Sh.int IntKind.i64, Sh.int IntKind.i64]) x.fst.snd.snd.snd.snd.fst) false none), Ent.live (Blk.mk (Cells.arr (Sh.int IntKind.i64) x.fst.snd.snd.snd.snd.snd.fst.fst) false none), Ent.live (Blk.mk (Cells.arr (Sh.int IntKind.i64) x.fst.snd.snd.snd.snd.snd.fst.snd.fst) false none), Ent.live (Blk.mk (Cells.arrs (Sh.int IntKind.i64) x.fst.snd.snd.snd.snd.snd.fst.snd.snd.fst) false none), Ent.live (Blk.mk (Cells.arr (Sh.st [Sh.int IntKind.i64, Sh.int IntKind.i64]) x.fst.snd.snd.snd.snd.snd.snd.fst) false none), Ent.live (Blk.mk (Cells.arr (Sh.st [Sh.int IntKind.i64, Sh.int IntKind.i64]) x.fst.snd.snd.snd.snd.snd.snd.snd.fst) false none), Ent.live (Blk.mk (Cells.arr (Sh.int IntKind.i64) x.fst.snd.snd.snd.snd.snd.snd.snd.snd.snd.snd.snd.snd.snd.snd.snd.snd.fst) false none), Ent.live (Blk.mk (Cells.arr (Sh.st [Sh.int IntKind.i64, Sh.int IntKind.i64, Sh.int IntKind.i64]) i16) true (some 3))]
noncomputable def tx30o0o0 (N0 : Nat) (x : Sh.Ts [CarSh]) (w18 : Nat) (w19 : List (Sh.st [Sh.int IntKind.i64, Sh.int IntKind.i64, Sh.int IntKind.i64]).T) : List AV := [AV.any, AV.any, AV.any, AV.slc 7 0 w18 Cap.unk, AV.any, AV.any, AV.any, AV.any, AV.any, AV.any, AV.any, AV.any, AV.any, AV.any, AV.any, AV.any, AV.any, AV.any, AV.any, AV.any, AV.any, AV.any, AV.any, AV.any, AV.any, AV.any, AV.any, AV.any, AV.any, AV.any, AV.any, AV.any, AV.any, AV.any, AV.any, AV.any, AV.any, AV.any]
noncomputable def hx30o0o0 (N0 : Nat) (x : Sh.Ts [CarSh]) (w18 : Nat) (w19 : List (Sh.st [Sh.int IntKind.i64, Sh.int IntKind.i64, Sh.int IntKind.i64]).T) : Heap := [Ent.live (Blk.mk (Cells.arr (Sh.st [Sh.int IntKind.i64, Sh.int IntKind.i64]) x.fst.snd.snd.snd.snd.fst) false none), Ent.live (Blk.mk (Cells.arr (Sh.int IntKind.i64) x.fst.snd.snd.snd.snd.snd.fst.fst) false none), Ent.live (Blk.mk (Cells.arr (Sh.int IntKind.i64) x.fst.snd.snd.snd.snd.snd.fst.snd.fst) false none), Ent.live (Blk.mk (Cells.arrs (Sh.int IntKind.i64) x.fst.snd.snd.snd.snd.snd.fst.snd.snd.fst) false none), Ent.live (Blk.mk (Cells.arr (Sh.st [Sh.int IntKind.i64, Sh.int IntKind.i64]) x.fst.snd.snd.snd.snd.snd.snd.fst) false none), Ent.live (Blk.mk (Cells.arr (Sh.st [Sh.int IntKind.i64, Sh.int IntKind.i64]) x.fst.snd.snd.snd.snd.snd.snd.snd.fst) false none), Ent.live (Blk.mk (Cells.arr (Sh.int IntKind.i64) x.fst.snd.snd.snd.snd.snd.snd.snd.snd.snd.snd.snd.snd.snd.snd.snd.snd.fst) false none), Ent.live (Blk.mk (Cells.arr (Sh.st [Sh.int IntKind.i64, Sh.int IntKind.i64, Sh.int IntKind.i64]) w19) true (some 3))]
noncomputable def law30o0 {β : Type} (N0 : Nat) (x : (CarT × Unit)) (k0 : Nat → List (Int × Int × Int × Unit) → Option β) : Nat → Nat → Int → List (Int × Int × Int × Unit) → Option β
  | 0, _, _, _ => none
  | n + 1, i14, i15, i16 => (bif decide (i15 < (↑(List.length x.fst.snd.snd.snd.snd.snd.snd.snd.snd.snd.snd.snd.snd.snd.snd.snd.snd.fst) : Int)) then (bif decide (0 ≤ i15) && decide (i15 < (↑(List.length x.fst.snd.snd.snd.snd.snd.snd.snd.snd.snd.snd.snd.snd.snd.snd.snd.snd.fst) : Int)) then (Option.bind x.fst.snd.snd.snd.snd.snd.snd.snd.snd.snd.snd.snd.snd.snd.snd.snd.snd.fst[i15.toNat]? fun v17 => (bif decide (i14 = i16.length) && (decide ((i14 + 1) * Try.prog.types[68].bytes ≤ 140737488355328) && decide (i14 + 1 ≤ 9223372036854775807)) then law30o0 N0 x k0 n (i14 + 1) (IntKind.i64.wrap (i15 + 1)) (i16.append [(v17, 1073741824, 137438953472, ())]) else none)) else none) else k0 i14 i16)
theorem leq30o0 {β : Type} (N0 : Nat) (x : Sh.Ts [CarSh]) (K : Exit → List AV → Heap → Option β) : ∀ (n : Nat) (i14 : Nat) (i15 : Int) (i16 : List (Sh.st [Sh.int IntKind.i64, Sh.int IntKind.i64, Sh.int IntKind.i64]).T), ln30o0 N0 n (t30o0 N0 x i14 i15 i16) (h30o0 N0 x i14 i15 i16) K = law30o0 N0 x (fun w18 w19 => K (Exit.exit 0) (tx30o0o0 N0 x w18 w19) (hx30o0o0 N0 x w18 w19)) n i14 i15 i16
  | 0, _, _, _ => rfl
  | n + 1, i14, i15, i16 => by
    have h : ln30o0 N0 (n + 1) (t30o0 N0 x i14 i15 i16) (h30o0 N0 x i14 i15 i16) K = (bif decide (i15 < (↑(List.length x.fst.snd.snd.snd.snd.snd.snd.snd.snd.snd.snd.snd.snd.snd.snd.snd.snd.fst) : Int)) then (bif decide (0 ≤ i15) && decide (i15 < (↑(List.length x.fst.snd.snd.snd.snd.snd.snd.snd.snd.snd.snd.snd.snd.snd.snd.snd.snd.fst) : Int)) then (Option.bind (x.fst.snd.snd.snd.snd.snd.snd.snd.snd.snd.snd.snd.snd.snd.snd.snd.snd.fst[0 + i15.toNat]?) fun v17 => (bif decide (i14 = i16.length) && (decide ((i14 + 1) * Try.prog.types[68].bytes ≤ 140737488355328) && decide (i14 + 1 ≤ 9223372036854775807)) then ln30o0 N0 n (t30o0 N0 x (i14 + 1) (IntKind.i64.wrap (i15 + 1)) (i16.append [(v17, 1073741824, 137438953472, ())])) (h30o0 N0 x (i14 + 1) (IntKind.i64.wrap (i15 + 1)) (i16.append [(v17, 1073741824, 137438953472, ())])) K else none)) else none) else K (Exit.exit 0) (tx30o0o0 N0 x i14 i16) (hx30o0o0 N0 x i14 i16)) := by kernel_rfl
    rw [h]
    simp only [decide_self, decide_true, Nat.zero_add, Bool.and_true, Bool.true_and, cond_true, law30o0, leq30o0 N0 x K n]
theorem rest30o0o0 (N0 : Nat) (x : Sh.Ts [CarSh]) (w20 : Nat) (w21 : List (Sh.st [Sh.int IntKind.i64, Sh.int IntKind.i64, Sh.int IntKind.i64]).T) : rk30o0 N0 (Exit.exit 0) (tx30o0o0 N0 x w20 w21) (hx30o0o0 N0 x w20 w21) = (bif decide (w20 = w21.length) then (Option.bind (fn24 (w21, ())) fun v22 => some ((v22.fst, ()))) else none) := by
  have h : rk30o0 N0 (Exit.exit 0) (tx30o0o0 N0 x w20 w21) (hx30o0o0 N0 x w20 w21) = (bif decide (w20 = w21.length) && true then (Option.bind (fn24 (w21, ())) fun v22 => some ((v22.fst, ()))) else none) := by kernel_rfl
  rw [h]
  simp only [decide_self, decide_true, Nat.zero_add, Bool.and_true, Bool.true_and, cond_true, leq30o0]
noncomputable def law30 (N0 : Nat) (x : (CarT × Unit)) : Option ((Int × Unit)) := (bif decide ((↑(List.length x.fst.snd.snd.snd.snd.snd.snd.snd.snd.snd.snd.snd.snd.snd.snd.snd.snd.fst) : Int) < 1) then some ((42, ())) else (bif decide ((↑(List.length x.fst.snd.snd.snd.snd.snd.snd.snd.snd.snd.snd.snd.snd.snd.snd.snd.snd.fst) : Int) > 8) then some ((42, ())) else (bif decide (0 < (↑(List.length x.fst.snd.snd.snd.snd.snd.snd.snd.snd.snd.snd.snd.snd.snd.snd.snd.snd.fst) : Int)) then (bif decide (0 ≤ 0) && decide (0 < (↑(List.length x.fst.snd.snd.snd.snd.snd.snd.snd.snd.snd.snd.snd.snd.snd.snd.snd.snd.fst) : Int)) then (Option.bind (x.fst.snd.snd.snd.snd.snd.snd.snd.snd.snd.snd.snd.snd.snd.snd.snd.snd.fst[Int.toNat 0]?) fun v0 => (law30o0 N0 x (fun w20 w21 => (bif decide (w20 = w21.length) then (Option.bind (fn24 (w21, ())) fun v22 => some ((v22.fst, ()))) else none)) N0 3 (IntKind.i64.wrap (0 + 1)) ([(x.fst.snd.snd.snd.snd.snd.snd.snd.snd.snd.snd.snd.snd.snd.snd.snd.fst, 1073741824, 137438953472, ()), (x.fst.snd.snd.snd.snd.snd.snd.snd.snd.snd.snd.snd.snd.snd.snd.snd.snd.snd.fst, 2147483648, 68719476736, ()), (v0, 1073741824, 137438953472, ())]))) else none) else (Option.bind (fn24 ([(x.fst.snd.snd.snd.snd.snd.snd.snd.snd.snd.snd.snd.snd.snd.snd.snd.fst, 1073741824, 137438953472, ()), (x.fst.snd.snd.snd.snd.snd.snd.snd.snd.snd.snd.snd.snd.snd.snd.snd.snd.snd.fst, 2147483648, 68719476736, ())], ())) fun v23 => some ((v23.fst, ()))))))
theorem eq30 (N0 : Nat) (x : Sh.Ts [CarSh]) : codeLaw Try.prog env30 200 (L30 N0) Try.f30 c30 [CarSh] [.int .i64] x = law30 N0 x := by
  have h : codeLaw Try.prog env30 200 (L30 N0) Try.f30 c30 [CarSh] [.int .i64] x = (bif decide ((↑(List.length x.fst.snd.snd.snd.snd.snd.snd.snd.snd.snd.snd.snd.snd.snd.snd.snd.snd.fst) : Int) < 1) then some ((42, ())) else (bif decide ((↑(List.length x.fst.snd.snd.snd.snd.snd.snd.snd.snd.snd.snd.snd.snd.snd.snd.snd.snd.fst) : Int) > 8) then some ((42, ())) else (bif decide (0 < (↑(List.length x.fst.snd.snd.snd.snd.snd.snd.snd.snd.snd.snd.snd.snd.snd.snd.snd.snd.fst) : Int)) then (bif decide (0 ≤ 0) && decide (0 < (↑(List.length x.fst.snd.snd.snd.snd.snd.snd.snd.snd.snd.snd.snd.snd.snd.snd.snd.snd.fst) : Int)) then (Option.bind (x.fst.snd.snd.snd.snd.snd.snd.snd.snd.snd.snd.snd.snd.snd.snd.snd.snd.fst[0 + Int.toNat 0]?) fun v0 => (ln30o0 N0 N0 (t30o0 N0 x 3 (IntKind.i64.wrap (0 + 1)) ([(x.fst.snd.snd.snd.snd.snd.snd.snd.snd.snd.snd.snd.snd.snd.snd.snd.fst, 1073741824, 137438953472, ()), (x.fst.snd.snd.snd.snd.snd.snd.snd.snd.snd.snd.snd.snd.snd.snd.snd.snd.snd.fst, 2147483648, 68719476736, ()), (v0, 1073741824, 137438953472, ())])) (h30o0 N0 x 3 (IntKind.i64.wrap (0 + 1)) ([(x.fst.snd.snd.snd.snd.snd.snd.snd.snd.snd.snd.snd.snd.snd.snd.snd.fst, 1073741824, 137438953472, ()), (x.fst.snd.snd.snd.snd.snd.snd.snd.snd.snd.snd.snd.snd.snd.snd.snd.snd.snd.fst, 2147483648, 68719476736, ()), (v0, 1073741824, 137438953472, ())])) (rk30o0 N0))) else none) else (Option.bind (fn24 ([(x.fst.snd.snd.snd.snd.snd.snd.snd.snd.snd.snd.snd.snd.snd.snd.snd.fst, 1073741824, 137438953472, ()), (x.fst.snd.snd.snd.snd.snd.snd.snd.snd.snd.snd.snd.snd.snd.snd.snd.snd.snd.fst, 2147483648, 68719476736, ())], ())) fun v23 => some ((v23.fst, ())))))) := by kernel_rfl
  rw [h]
  unfold law30
  simp only [decide_self, decide_true, Nat.zero_add, Bool.and_true, Bool.true_and, cond_true, leq30o0, rest30o0o0]
noncomputable def fn30 (x : (CarT × Unit)) : Option ((Int × Unit)) := law30 (10 ^ 30) x
theorem reads30 : Reads Try.prog 30 [CarSh] [.int .i64] fn30 := (Reads.of_code mixed (fn := Try.f30) (c := c30) Try.func30 (by kernel_rfl) (by kernel_rfl) env30 200 (L30_fit _) (by kernel_rfl)).to (eq30 _)
noncomputable def s30 : Summ Try.prog := reads30.summ
/- chicane/car.rest -/
noncomputable def c31 : Code := (Try.f31.body.getD .skip)
noncomputable def env31 : Env Try.prog := [s24]
noncomputable def L31 : Loops Try.prog := []
theorem L31_fit : (L31).fit c31 := Loops.fit_nil
noncomputable def law31 (x : (CarT × Unit)) : Option ((Int × Unit)) := (bif x.fst.snd.snd.snd.snd.snd.snd.snd.snd.snd.snd.snd.snd.snd.snd.snd.snd.snd.snd.fst == 0 then (bif x.fst.snd.snd.snd.snd.snd.snd.snd.snd.snd.snd.snd.snd.snd.snd.snd.snd.snd.snd.fst == 0 then (Option.bind (fn24 ([(x.fst.snd.snd.snd.snd.snd.snd.snd.snd.snd.snd.snd.snd.snd.snd.snd.snd.snd.snd.snd.fst, 0, 281474976710656, ()), (x.fst.snd.snd.snd.snd.snd.snd.snd.snd.snd.snd.snd.snd.snd.snd.snd.snd.snd.snd.snd.snd.fst, 0, 70368744177664, ()), (x.fst.snd.snd.snd.snd.snd.snd.snd.snd.snd.snd.snd.snd.snd.snd.snd.snd.snd.snd.snd.snd.snd.fst, 0, 70368744177664, ()), (x.fst.snd.snd.snd.snd.snd.snd.snd.snd.snd.snd.snd.snd.snd.snd.snd.snd.snd.snd.snd.snd.snd.snd.fst, 0, 4294967296, ()), (IntKind.i64.wrap x.fst.snd.snd.snd.snd.snd.snd.snd.snd.snd.snd.snd.snd.snd.snd.snd.snd.snd.snd.snd.snd.snd.snd.snd.fst, 0, 536870912, ()), (IntKind.i64.wrap x.fst.snd.snd.snd.snd.snd.snd.snd.snd.snd.snd.snd.snd.snd.snd.snd.snd.snd.snd.snd.snd.snd.snd.snd.snd.fst, 0, 2147483648, ())], ())) fun v0 => some ((v0.fst, ()))) else some ((40, ()))) else (bif x.fst.snd.snd.snd.snd.snd.snd.snd.snd.snd.snd.snd.snd.snd.snd.snd.snd.snd.snd.fst == 1 then (bif x.fst.snd.snd.snd.snd.snd.snd.snd.snd.snd.snd.snd.snd.snd.snd.snd.snd.snd.snd.fst == 1 then (Option.bind (fn24 ([(x.fst.snd.snd.snd.snd.snd.snd.snd.snd.snd.snd.snd.snd.snd.snd.snd.snd.snd.snd.snd.fst, 0, 281474976710656, ()), (x.fst.snd.snd.snd.snd.snd.snd.snd.snd.snd.snd.snd.snd.snd.snd.snd.snd.snd.snd.snd.snd.fst, 0, 70368744177664, ()), (x.fst.snd.snd.snd.snd.snd.snd.snd.snd.snd.snd.snd.snd.snd.snd.snd.snd.snd.snd.snd.snd.snd.fst, 0, 70368744177664, ()), (x.fst.snd.snd.snd.snd.snd.snd.snd.snd.snd.snd.snd.snd.snd.snd.snd.snd.snd.snd.snd.snd.snd.snd.fst, 0, 4294967296, ()), (IntKind.i64.wrap x.fst.snd.snd.snd.snd.snd.snd.snd.snd.snd.snd.snd.snd.snd.snd.snd.snd.snd.snd.snd.snd.snd.snd.snd.fst, 0, 536870912, ()), (IntKind.i64.wrap x.fst.snd.snd.snd.snd.snd.snd.snd.snd.snd.snd.snd.snd.snd.snd.snd.snd.snd.snd.snd.snd.snd.snd.snd.snd.fst, 0, 2147483648, ())], ())) fun v1 => some ((v1.fst, ()))) else some ((40, ()))) else (bif x.fst.snd.snd.snd.snd.snd.snd.snd.snd.snd.snd.snd.snd.snd.snd.snd.snd.snd.snd.fst == 2 then (Option.bind (fn24 ([(x.fst.snd.snd.snd.snd.snd.snd.snd.snd.snd.snd.snd.snd.snd.snd.snd.snd.snd.snd.snd.fst, 0, 281474976710656, ()), (x.fst.snd.snd.snd.snd.snd.snd.snd.snd.snd.snd.snd.snd.snd.snd.snd.snd.snd.snd.snd.snd.fst, 0, 70368744177664, ()), (x.fst.snd.snd.snd.snd.snd.snd.snd.snd.snd.snd.snd.snd.snd.snd.snd.snd.snd.snd.snd.snd.snd.fst, 0, 70368744177664, ()), (x.fst.snd.snd.snd.snd.snd.snd.snd.snd.snd.snd.snd.snd.snd.snd.snd.snd.snd.snd.snd.snd.snd.snd.fst, 0, 4294967296, ()), (IntKind.i64.wrap x.fst.snd.snd.snd.snd.snd.snd.snd.snd.snd.snd.snd.snd.snd.snd.snd.snd.snd.snd.snd.snd.snd.snd.snd.fst, 0, 536870912, ()), (IntKind.i64.wrap x.fst.snd.snd.snd.snd.snd.snd.snd.snd.snd.snd.snd.snd.snd.snd.snd.snd.snd.snd.snd.snd.snd.snd.snd.snd.fst, 0, 2147483648, ())], ())) fun v2 => some ((v2.fst, ()))) else some ((40, ())))))
theorem eq31 (x : Sh.Ts [CarSh]) : codeLaw Try.prog env31 200 (L31) Try.f31 c31 [CarSh] [.int .i64] x = law31 x := by kernel_rfl
noncomputable def fn31 (x : (CarT × Unit)) : Option ((Int × Unit)) := law31 x
theorem reads31 : Reads Try.prog 31 [CarSh] [.int .i64] fn31 := (Reads.of_code mixed (fn := Try.f31) (c := c31) Try.func31 (by kernel_rfl) (by kernel_rfl) env31 200 (L31_fit) (by kernel_rfl)).to (eq31)
noncomputable def s31 : Summ Try.prog := reads31.summ
/- chicane/car.ease -/
noncomputable def c32 : Code := (Try.f32.body.getD .skip)
noncomputable def env32 : Env Try.prog := [s24, s39, s38]
noncomputable def L32 : Loops Try.prog := []
theorem L32_fit : (L32).fit c32 := Loops.fit_nil
noncomputable def law32 (x : (CarT × Unit)) : Option ((Int × Unit)) := (Option.bind (fn24 ([(x.fst.snd.snd.snd.snd.snd.snd.snd.snd.snd.snd.snd.snd.snd.snd.snd.snd.snd.snd.snd.snd.snd.snd.snd.snd.snd.snd.snd.snd.fst, 0, 17179869184, ()), (x.fst.snd.snd.snd.snd.snd.snd.snd.snd.snd.snd.snd.snd.snd.snd.snd.snd.snd.snd.snd.snd.snd.snd.snd.snd.snd.snd.snd.snd.snd.fst, 0, 17179869184, ()), (x.fst.snd.snd.snd.snd.snd.snd.snd.snd.snd.snd.snd.snd.snd.snd.snd.snd.snd.snd.snd.snd.snd.snd.snd.snd.snd.snd.snd.snd.snd.snd.fst, 0, 8796093022208, ()), (x.fst.snd.snd.snd.snd.snd.snd.snd.snd.snd.snd.snd.snd.snd.snd.snd.snd.snd.snd.snd.snd.snd.snd.snd.snd.snd.snd.snd.snd.snd.snd.snd.fst, 0, 8796093022208, ())], ())) fun v0 => (Option.bind (fn39 x.fst.snd.snd.snd.snd.snd.snd.snd.snd.snd.snd.snd.snd.snd.snd.snd.snd.snd.snd.snd.snd.snd.snd.snd.snd.snd.snd.snd.snd.snd.snd) fun v1 => (Option.bind (fn38 ([v0.fst, v1.fst], ())) fun v2 => some ((v2.fst, ())))))
theorem eq32 (x : Sh.Ts [CarSh]) : codeLaw Try.prog env32 200 (L32) Try.f32 c32 [CarSh] [.int .i64] x = law32 x := by kernel_rfl
noncomputable def fn32 (x : (CarT × Unit)) : Option ((Int × Unit)) := law32 x
theorem reads32 : Reads Try.prog 32 [CarSh] [.int .i64] fn32 := (Reads.of_code mixed (fn := Try.f32) (c := c32) Try.func32 (by kernel_rfl) (by kernel_rfl) env32 200 (L32_fit) (by kernel_rfl)).to (eq32)
noncomputable def s32 : Summ Try.prog := reads32.summ
/- chicane/car.all -/
noncomputable def c18 : Code := (Try.f18.body.getD .skip)
noncomputable def env18 : Env Try.prog := [s22, s23, s24, s25, s26, s27, s28, s29, s30, s31, s32]
noncomputable def L18 : Loops Try.prog := []
theorem L18_fit : (L18).fit c18 := Loops.fit_nil
noncomputable def law18 (x : (CarT × Unit)) : Option (List Int) := (Option.bind (fn22 x) fun v0 => (Option.bind (fn23 (x.fst.snd.snd.fst.fst, ())) fun v1 => (Option.bind (fn23 (x.fst.snd.snd.fst.snd.fst, ())) fun v2 => (Option.bind (fn23 (x.fst.snd.snd.fst.snd.snd.fst, ())) fun v3 => (Option.bind (fn23 x.fst.snd.snd.fst.snd.snd.snd) fun v4 => (Option.bind (fn24 ([(x.fst.snd.snd.snd.fst.fst, 0, 562949953421312, ()), (x.fst.snd.snd.snd.fst.snd.fst, 0, 562949953421312, ())], ())) fun v5 => (Option.bind (fn25x26 (x.fst.snd.snd.snd.snd.fst, -140737488355328, 140737488355328, ()) ()) fun v6 => (Option.bind (fn27 (x.fst.snd.snd.snd.snd.snd.fst, ())) fun v7 => (Option.bind (fn25x28 (x.fst.snd.snd.snd.snd.snd.snd.fst, -17592186044416, 17592186044416, ()) ()) fun v8 => (Option.bind (fn25x28 (x.fst.snd.snd.snd.snd.snd.snd.snd.fst, 0, 140737488355328, ()) ()) fun v9 => (Option.bind (fn29 x) fun v10 => (Option.bind (fn30 x) fun v11 => (Option.bind (fn31 x) fun v12 => (Option.bind (fn32 x) fun v13 => some ([v0.fst, v1.fst, v2.fst, v3.fst, v4.fst, v5.fst, v6.fst, v7.fst, v8.fst, v9.fst, v10.fst, v11.fst, v12.fst, v13.fst])))))))))))))))
theorem eq18 (x : Sh.Ts [CarSh]) : codeLawF Try.prog env18 200 (L18) Try.f18 c18 [CarSh] (.int .i64) x = law18 x := by
  have h : codeLawF Try.prog env18 200 (L18) Try.f18 c18 [CarSh] (.int .i64) x = (bif decide (List.length x.fst.snd.snd.snd.snd.fst = List.length x.fst.snd.snd.snd.snd.fst) && (decide (List.length x.fst.snd.snd.snd.snd.snd.fst.fst = List.length x.fst.snd.snd.snd.snd.snd.fst.fst) && (decide (List.length x.fst.snd.snd.snd.snd.snd.fst.snd.fst = List.length x.fst.snd.snd.snd.snd.snd.fst.snd.fst) && (decide (List.length x.fst.snd.snd.snd.snd.snd.fst.snd.snd.fst = List.length x.fst.snd.snd.snd.snd.snd.fst.snd.snd.fst) && true)) && (decide (List.length x.fst.snd.snd.snd.snd.snd.snd.fst = List.length x.fst.snd.snd.snd.snd.snd.snd.fst) && (decide (List.length x.fst.snd.snd.snd.snd.snd.snd.snd.fst = List.length x.fst.snd.snd.snd.snd.snd.snd.snd.fst) && (decide (List.length x.fst.snd.snd.snd.snd.snd.snd.snd.snd.snd.snd.snd.snd.snd.snd.snd.snd.fst = List.length x.fst.snd.snd.snd.snd.snd.snd.snd.snd.snd.snd.snd.snd.snd.snd.snd.snd.fst) && true)))) && true then (Option.bind (fn22 x) fun v0 => (Option.bind (fn23 (x.fst.snd.snd.fst.fst, ())) fun v1 => (Option.bind (fn23 (x.fst.snd.snd.fst.snd.fst, ())) fun v2 => (Option.bind (fn23 (x.fst.snd.snd.fst.snd.snd.fst, ())) fun v3 => (Option.bind (fn23 x.fst.snd.snd.fst.snd.snd.snd) fun v4 => (Option.bind (fn24 ([(x.fst.snd.snd.snd.fst.fst, 0, 562949953421312, ()), (x.fst.snd.snd.snd.fst.snd.fst, 0, 562949953421312, ())], ())) fun v5 => (bif decide (List.length x.fst.snd.snd.snd.snd.fst = List.length x.fst.snd.snd.snd.snd.fst) && true && true then (Option.bind (fn25x26 (x.fst.snd.snd.snd.snd.fst, -140737488355328, 140737488355328, ()) ()) fun v6 => (bif decide (List.length x.fst.snd.snd.snd.snd.snd.fst.fst = List.length x.fst.snd.snd.snd.snd.snd.fst.fst) && (decide (List.length x.fst.snd.snd.snd.snd.snd.fst.snd.fst = List.length x.fst.snd.snd.snd.snd.snd.fst.snd.fst) && (decide (List.length x.fst.snd.snd.snd.snd.snd.fst.snd.snd.fst = List.length x.fst.snd.snd.snd.snd.snd.fst.snd.snd.fst) && true)) && true then (Option.bind (fn27 (x.fst.snd.snd.snd.snd.snd.fst, ())) fun v7 => (bif decide (List.length x.fst.snd.snd.snd.snd.snd.snd.fst = List.length x.fst.snd.snd.snd.snd.snd.snd.fst) && true && true then (Option.bind (fn25x28 (x.fst.snd.snd.snd.snd.snd.snd.fst, -17592186044416, 17592186044416, ()) ()) fun v8 => (bif decide (List.length x.fst.snd.snd.snd.snd.snd.snd.snd.fst = List.length x.fst.snd.snd.snd.snd.snd.snd.snd.fst) && true && true then (Option.bind (fn25x28 (x.fst.snd.snd.snd.snd.snd.snd.snd.fst, 0, 140737488355328, ()) ()) fun v9 => (bif decide (List.length x.fst.snd.snd.snd.snd.fst = List.length x.fst.snd.snd.snd.snd.fst) && (decide (List.length x.fst.snd.snd.snd.snd.snd.fst.fst = List.length x.fst.snd.snd.snd.snd.snd.fst.fst) && (decide (List.length x.fst.snd.snd.snd.snd.snd.fst.snd.fst = List.length x.fst.snd.snd.snd.snd.snd.fst.snd.fst) && (decide (List.length x.fst.snd.snd.snd.snd.snd.fst.snd.snd.fst = List.length x.fst.snd.snd.snd.snd.snd.fst.snd.snd.fst) && true)) && (decide (List.length x.fst.snd.snd.snd.snd.snd.snd.fst = List.length x.fst.snd.snd.snd.snd.snd.snd.fst) && (decide (List.length x.fst.snd.snd.snd.snd.snd.snd.snd.fst = List.length x.fst.snd.snd.snd.snd.snd.snd.snd.fst) && (decide (List.length x.fst.snd.snd.snd.snd.snd.snd.snd.snd.snd.snd.snd.snd.snd.snd.snd.snd.fst = List.length x.fst.snd.snd.snd.snd.snd.snd.snd.snd.snd.snd.snd.snd.snd.snd.snd.snd.fst) && true)))) && true then (Option.bind (fn29 x) fun v10 => (bif decide (List.length x.fst.snd.snd.snd.snd.fst = List.length x.fst.snd.snd.snd.snd.fst) && (decide (List.length x.fst.snd.snd.snd.snd.snd.fst.fst = List.length x.fst.snd.snd.snd.snd.snd.fst.fst) && (decide (List.length x.fst.snd.snd.snd.snd.snd.fst.snd.fst = List.length x.fst.snd.snd.snd.snd.snd.fst.snd.fst) && (decide (List.length x.fst.snd.snd.snd.snd.snd.fst.snd.snd.fst = List.length x.fst.snd.snd.snd.snd.snd.fst.snd.snd.fst) && true)) && (decide (List.length x.fst.snd.snd.snd.snd.snd.snd.fst = List.length x.fst.snd.snd.snd.snd.snd.snd.fst) && (decide (List.length x.fst.snd.snd.snd.snd.snd.snd.snd.fst = List.length x.fst.snd.snd.snd.snd.snd.snd.snd.fst) && (decide (List.length x.fst.snd.snd.snd.snd.snd.snd.snd.snd.snd.snd.snd.snd.snd.snd.snd.snd.fst = List.length x.fst.snd.snd.snd.snd.snd.snd.snd.snd.snd.snd.snd.snd.snd.snd.snd.snd.fst) && true)))) && true then (Option.bind (fn30 x) fun v11 => (bif decide (List.length x.fst.snd.snd.snd.snd.fst = List.length x.fst.snd.snd.snd.snd.fst) && (decide (List.length x.fst.snd.snd.snd.snd.snd.fst.fst = List.length x.fst.snd.snd.snd.snd.snd.fst.fst) && (decide (List.length x.fst.snd.snd.snd.snd.snd.fst.snd.fst = List.length x.fst.snd.snd.snd.snd.snd.fst.snd.fst) && (decide (List.length x.fst.snd.snd.snd.snd.snd.fst.snd.snd.fst = List.length x.fst.snd.snd.snd.snd.snd.fst.snd.snd.fst) && true)) && (decide (List.length x.fst.snd.snd.snd.snd.snd.snd.fst = List.length x.fst.snd.snd.snd.snd.snd.snd.fst) && (decide (List.length x.fst.snd.snd.snd.snd.snd.snd.snd.fst = List.length x.fst.snd.snd.snd.snd.snd.snd.snd.fst) && (decide (List.length x.fst.snd.snd.snd.snd.snd.snd.snd.snd.snd.snd.snd.snd.snd.snd.snd.snd.fst = List.length x.fst.snd.snd.snd.snd.snd.snd.snd.snd.snd.snd.snd.snd.snd.snd.snd.snd.fst) && true)))) && true then (Option.bind (fn31 x) fun v12 => (bif decide (List.length x.fst.snd.snd.snd.snd.fst = List.length x.fst.snd.snd.snd.snd.fst) && (decide (List.length x.fst.snd.snd.snd.snd.snd.fst.fst = List.length x.fst.snd.snd.snd.snd.snd.fst.fst) && (decide (List.length x.fst.snd.snd.snd.snd.snd.fst.snd.fst = List.length x.fst.snd.snd.snd.snd.snd.fst.snd.fst) && (decide (List.length x.fst.snd.snd.snd.snd.snd.fst.snd.snd.fst = List.length x.fst.snd.snd.snd.snd.snd.fst.snd.snd.fst) && true)) && (decide (List.length x.fst.snd.snd.snd.snd.snd.snd.fst = List.length x.fst.snd.snd.snd.snd.snd.snd.fst) && (decide (List.length x.fst.snd.snd.snd.snd.snd.snd.snd.fst = List.length x.fst.snd.snd.snd.snd.snd.snd.snd.fst) && (decide (List.length x.fst.snd.snd.snd.snd.snd.snd.snd.snd.snd.snd.snd.snd.snd.snd.snd.snd.fst = List.length x.fst.snd.snd.snd.snd.snd.snd.snd.snd.snd.snd.snd.snd.snd.snd.snd.snd.fst) && true)))) && true then (Option.bind (fn32 x) fun v13 => some ([v0.fst, v1.fst, v2.fst, v3.fst, v4.fst, v5.fst, v6.fst, v7.fst, v8.fst, v9.fst, v10.fst, v11.fst, v12.fst, v13.fst])) else none)) else none)) else none)) else none)) else none)) else none)) else none)) else none))))))) else none) := by kernel_rfl
  rw [h]
  unfold law18
  simp only [decide_self, decide_true, Nat.zero_add, Bool.and_true, Bool.true_and, cond_true]
noncomputable def fn18 (x : (CarT × Unit)) : Option (List (Int)) := law18 x
theorem reads18 : ReadsF Try.prog 18 [CarSh] (.int .i64) fn18 := (ReadsF.of_code mixed (fn := Try.f18) (c := c18) Try.func18 (by kernel_rfl) (by kernel_rfl) env18 200 (L18_fit)).to (eq18)
noncomputable def s18 : Summ Try.prog := reads18.summ
/- chicane/car.Right$1 -/
noncomputable def c20 : Code := (Try.f20.body.getD .skip)
noncomputable def env20 : Env Try.prog := []
noncomputable def L20 : Loops Try.prog := []
theorem L20_fit : (L20).fit c20 := Loops.fit_nil
noncomputable def law20 (x : (Int × Unit)) : Option ((Bool × Unit)) := some ((x.fst != 0, ()))
theorem eq20 (x : Sh.Ts [Sh.int IntKind.i64]) : codeLaw Try.prog env20 200 (L20) Try.f20 c20 [.int .i64] [.bool] x = law20 x := by kernel_rfl
noncomputable def fn20 (x : (Int × Unit)) : Option ((Bool × Unit)) := law20 x
theorem reads20 : Reads Try.prog 20 [.int .i64] [.bool] fn20 := (Reads.of_code mixed (fn := Try.f20) (c := c20) Try.func20 (by kernel_rfl) (by kernel_rfl) env20 200 (L20_fit) (by kernel_rfl)).to (eq20)
noncomputable def s20 : Summ Try.prog := reads20.summ
/- slices.IndexFunc[[]chicane/api.Errno,chicane/api.Errno] -/
noncomputable def c19x20 : Code := (Try.f19.body.getD .skip)
noncomputable def env19x20 : Env Try.prog := [s20]
noncomputable def b19x20_0 : Code := ((kid ((subAt c19x20 [0, 1, 0, 1]).getD .skip) 0).getD .skip)
noncomputable def kx19x20_0 : Exit → List Nat | .ret => [4] | _ => []
noncomputable def Li19x20_0 (N0 : Nat) : Loops Try.prog := []
noncomputable def ls19x20_0 (N0 : Nat) : LSumm Try.prog := loopSumm mixed env19x20 200 (Li19x20_0 N0) b19x20_0 (Loops.fit_nil) [0, 1, 7, 8] kx19x20_0 (N0)
noncomputable def ln19x20_0 {β : Type} (N0 : Nat) (n : Nat) (t : List AV) (h : Heap) (K : Exit → List AV → Heap → Option β) : Option β := loopN Try.prog env19x20 (Sh.nes [.sl (.int .i64)] + Sh.nes [] + List.length (α := Sh) []) 200 (Li19x20_0 N0) b19x20_0 [0, 1, 7, 8] kx19x20_0 n t h K
noncomputable def L19x20 (N0 : Nat) : Loops Try.prog := [([0, 1, 0, 1], ls19x20_0 N0)]
theorem L19x20_fit (N0 : Nat) : (L19x20 N0).fit c19x20 := Loops.fit_cons (by kernel_rfl) (Loops.fit_nil)
noncomputable def K19x20 : Exit → List AV → Heap → Option (Sh.Ts [.int .i64]) := fun e t h => outK (P := Try.prog) Try.f19 [.int .i64] e t h
noncomputable def rk19x20_0 (N0 : Nat) : Exit → List AV → Heap → Option (Sh.Ts [.int .i64]) := (blkK 0 (seqK Try.prog env19x20 (Sh.nes [.sl (.int .i64)] + Sh.nes [] + List.length (α := Sh) []) 198 (L19x20 N0) [1, 1] ((subAt c19x20 [1, 1]).getD .skip) K19x20))
noncomputable def t19x20_0 (N0 : Nat) (x : Sh.Ts [(Sh.int IntKind.i64).sl]) (i5 : Int) : List AV := [AV.slc 0 0 (List.length x.fst) Cap.low, AV.fn (Fn.func 20) [] [], AV.any, AV.any, AV.any, AV.any, AV.any, AV.val (Value.int IntKind.i64 (↑(List.length x.fst) : Int)), AV.val (Value.int IntKind.i64 i5), AV.any, AV.any, AV.any, AV.any, AV.any, AV.any, AV.any, AV.any, AV.any, AV.any]
noncomputable def h19x20_0 (N0 : Nat) (x : Sh.Ts [(Sh.int IntKind.i64).sl]) (i5 : Int) : Heap := [Ent.live (Blk.mk (Cells.arr (Sh.int IntKind.i64) x.fst) false none)]
noncomputable def tx19x20_0_0 (N0 : Nat) (x : Sh.Ts [(Sh.int IntKind.i64).sl]) (w7 : Int) : List AV := [AV.any, AV.any, AV.any, AV.any, AV.val (Value.int IntKind.i64 w7), AV.any, AV.any, AV.any, AV.any, AV.any, AV.any, AV.any, AV.any, AV.any, AV.any, AV.any, AV.any, AV.any, AV.any]
noncomputable def hx19x20_0_0 (N0 : Nat) (x : Sh.Ts [(Sh.int IntKind.i64).sl]) (w7 : Int) : Heap := [Ent.live (Blk.mk (Cells.arr (Sh.int IntKind.i64) x.fst) false none)]
noncomputable def tx19x20_0_1 (N0 : Nat) (x : Sh.Ts [(Sh.int IntKind.i64).sl]) : List AV := [AV.any, AV.any, AV.any, AV.any, AV.any, AV.any, AV.any, AV.any, AV.any, AV.any, AV.any, AV.any, AV.any, AV.any, AV.any, AV.any, AV.any, AV.any, AV.any]
noncomputable def hx19x20_0_1 (N0 : Nat) (x : Sh.Ts [(Sh.int IntKind.i64).sl]) : Heap := [Ent.live (Blk.mk (Cells.arr (Sh.int IntKind.i64) x.fst) false none)]
noncomputable def law19x20_0 {β : Type} (N0 : Nat) (x : ((List Int) × Unit)) (k0 : Int → Option β) (k1 : Option β) : Nat → Int → Option β
  | 0, _ => none
  | n + 1, i5 => (bif decide (i5 < (↑(List.length x.fst) : Int)) then (bif decide (0 ≤ i5) && decide (i5 < (↑(List.length x.fst) : Int)) then (Option.bind x.fst[i5.toNat]? fun v6 => (bif v6 != 0 then k0 i5 else law19x20_0 N0 x k0 k1 n (IntKind.i64.wrap (i5 + 1)))) else none) else k1)
theorem leq19x20_0 {β : Type} (N0 : Nat) (x : Sh.Ts [(Sh.int IntKind.i64).sl]) (K : Exit → List AV → Heap → Option β) : ∀ (n : Nat) (i5 : Int), ln19x20_0 N0 n (t19x20_0 N0 x i5) (h19x20_0 N0 x i5) K = law19x20_0 N0 x (fun w7 => K (Exit.ret) (tx19x20_0_0 N0 x w7) (hx19x20_0_0 N0 x w7)) (K (Exit.exit 0) (tx19x20_0_1 N0 x) (hx19x20_0_1 N0 x)) n i5
  | 0, _ => rfl
  | n + 1, i5 => by
    have h : ln19x20_0 N0 (n + 1) (t19x20_0 N0 x i5) (h19x20_0 N0 x i5) K = (bif decide (i5 < (↑(List.length x.fst) : Int)) then (bif decide (0 ≤ i5) && decide (i5 < (↑(List.length x.fst) : Int)) then (Option.bind (x.fst[0 + i5.toNat]?) fun v6 => (bif v6 != 0 then K (Exit.ret) (tx19x20_0_0 N0 x i5) (hx19x20_0_0 N0 x i5) else ln19x20_0 N0 n (t19x20_0 N0 x (IntKind.i64.wrap (i5 + 1))) (h19x20_0 N0 x (IntKind.i64.wrap (i5 + 1))) K)) else none) else K (Exit.exit 0) (tx19x20_0_1 N0 x) (hx19x20_0_1 N0 x)) := by kernel_rfl
    rw [h]
    simp only [decide_self, decide_true, Nat.zero_add, Bool.and_true, Bool.true_and, cond_true, law19x20_0, leq19x20_0 N0 x K n]
theorem rest19x20_0_0 (N0 : Nat) (x : Sh.Ts [(Sh.int IntKind.i64).sl]) (w8 : Int) : rk19x20_0 N0 (Exit.ret) (tx19x20_0_0 N0 x w8) (hx19x20_0_0 N0 x w8) = some ((w8, ())) := by kernel_rfl
theorem rest19x20_0_1 (N0 : Nat) (x : Sh.Ts [(Sh.int IntKind.i64).sl]) : rk19x20_0 N0 (Exit.exit 0) (tx19x20_0_1 N0 x) (hx19x20_0_1 N0 x) = some ((-1, ())) := by kernel_rfl
noncomputable def law19x20 (N0 : Nat) (x : ((List Int) × Unit)) (xs : (Unit)) : Option ((Int × Unit)) := (law19x20_0 N0 x (fun w8 => some ((w8, ()))) (some ((-1, ()))) N0 0)
theorem eq19x20 (N0 : Nat) (x : Sh.Ts [(Sh.int IntKind.i64).sl]) (xs : Sh.Ts []) : codeLawC Try.prog env19x20 200 (L19x20 N0) Try.f19 c19x20 [.sl (.int .i64)] 20 [] [.int .i64] x xs = law19x20 N0 x xs := by
  have h : codeLawC Try.prog env19x20 200 (L19x20 N0) Try.f19 c19x20 [.sl (.int .i64)] 20 [] [.int .i64] x xs = (ln19x20_0 N0 N0 (t19x20_0 N0 x 0) (h19x20_0 N0 x 0) (rk19x20_0 N0)) := by kernel_rfl
  rw [h]
  unfold law19x20
  simp only [decide_self, decide_true, Nat.zero_add, Bool.and_true, Bool.true_and, cond_true, leq19x20_0, rest19x20_0_0, rest19x20_0_1]
noncomputable def fn19x20 (x : ((List Int) × Unit)) (xs : (Unit)) : Option ((Int × Unit)) := law19x20 (10 ^ 30) x xs
theorem reads19x20 : ReadsC Try.prog 19 [.sl (.int .i64)] 20 [] [.int .i64] fn19x20 := (ReadsC.of_code mixed (fn := Try.f19) (c := c19x20) Try.func19 (by kernel_rfl) (by kernel_rfl) env19x20 200 (L19x20_fit _) (by kernel_rfl)).to (eq19x20 _)
noncomputable def s19x20 : Summ Try.prog := reads19x20.summ (by kernel_rfl)
noncomputable def s19 : Summ Try.prog := s19x20
/- chicane/car.Right -/
noncomputable def c14 : Code := (Try.f14.body.getD .skip)
noncomputable def env14 : Env Try.prog := [s18, s19, s20]
noncomputable def L14 : Loops Try.prog := []
theorem L14_fit : (L14).fit c14 := Loops.fit_nil
noncomputable def law14 (x : (CarT × Unit)) : Option ((Int × Int × Unit)) := (Option.bind (fn18 x) fun v0 => (Option.bind (fn19x20 (v0, ()) ()) fun v1 => (bif decide (v1.fst < 0) then some ((0, 0, ())) else (bif decide (0 ≤ v1.fst) && decide (v1.fst < (↑v0.length : Int)) then (Option.bind (v0[Int.toNat v1.fst]?) fun v2 => some ((v2, v1.fst, ()))) else none))))
theorem eq14 (x : Sh.Ts [CarSh]) : codeLaw Try.prog env14 200 (L14) Try.f14 c14 [CarSh] [.int .i64, .int .i64] x = law14 x := by
  have h : codeLaw Try.prog env14 200 (L14) Try.f14 c14 [CarSh] [.int .i64, .int .i64] x = (bif decide (List.length x.fst.snd.snd.snd.snd.fst = List.length x.fst.snd.snd.snd.snd.fst) && (decide (List.length x.fst.snd.snd.snd.snd.snd.fst.fst = List.length x.fst.snd.snd.snd.snd.snd.fst.fst) && (decide (List.length x.fst.snd.snd.snd.snd.snd.fst.snd.fst = List.length x.fst.snd.snd.snd.snd.snd.fst.snd.fst) && (decide (List.length x.fst.snd.snd.snd.snd.snd.fst.snd.snd.fst = List.length x.fst.snd.snd.snd.snd.snd.fst.snd.snd.fst) && true)) && (decide (List.length x.fst.snd.snd.snd.snd.snd.snd.fst = List.length x.fst.snd.snd.snd.snd.snd.snd.fst) && (decide (List.length x.fst.snd.snd.snd.snd.snd.snd.snd.fst = List.length x.fst.snd.snd.snd.snd.snd.snd.snd.fst) && (decide (List.length x.fst.snd.snd.snd.snd.snd.snd.snd.snd.snd.snd.snd.snd.snd.snd.snd.snd.fst = List.length x.fst.snd.snd.snd.snd.snd.snd.snd.snd.snd.snd.snd.snd.snd.snd.snd.snd.fst) && true)))) && true then (Option.bind (fn18 x) fun v0 => (bif decide (v0.length = v0.length) && true && true then (Option.bind (fn19x20 (v0, ()) ()) fun v1 => (bif decide (v1.fst < 0) then some ((0, 0, ())) else (bif decide (0 ≤ v1.fst) && decide (v1.fst < (↑v0.length : Int)) then (Option.bind (v0[0 + Int.toNat v1.fst]?) fun v2 => some ((v2, v1.fst, ()))) else none))) else none)) else none) := by kernel_rfl
  rw [h]
  unfold law14
  simp only [decide_self, decide_true, Nat.zero_add, Bool.and_true, Bool.true_and, cond_true]
noncomputable def fn14 (x : (CarT × Unit)) : Option ((Int × Int × Unit)) := law14 x
theorem reads14 : Reads Try.prog 14 [CarSh] [.int .i64, .int .i64] fn14 := (Reads.of_code mixed (fn := Try.f14) (c := c14) Try.func14 (by kernel_rfl) (by kernel_rfl) env14 200 (L14_fit) (by kernel_rfl)).to (eq14)
noncomputable def s14 : Summ Try.prog := reads14.summ
/- chicane/chicanelaw09.Few -/
noncomputable def c15 : Code := (Try.f15.body.getD .skip)
noncomputable def env15 : Env Try.prog := []
noncomputable def b15o0 : Code := ((kid ((subAt c15 [0, 1, 0, 1, 1]).getD .skip) 0).getD .skip)
noncomputable def kx15o0 : Exit → List Nat | .ret => [2] | _ => []
noncomputable def Li15o0 (N0 : Nat) : Loops Try.prog := []
noncomputable def ls15o0 (N0 : Nat) : LSumm Try.prog := loopSumm mixed env15 200 (Li15o0 N0) b15o0 (Loops.fit_nil) [1, 3] kx15o0 (N0)
noncomputable def ln15o0 {β : Type} (N0 : Nat) (n : Nat) (t : List AV) (h : Heap) (K : Exit → List AV → Heap → Option β) : Option β := loopN Try.prog env15 (Sh.nes [PaneSh]) 200 (Li15o0 N0) b15o0 [1, 3] kx15o0 n t h K
noncomputable def L15 (N0 : Nat) : Loops Try.prog := [([0, 1, 0, 1, 1], ls15o0 N0)]
theorem L15_fit (N0 : Nat) : (L15 N0).fit c15 := Loops.fit_cons (by kernel_rfl) (Loops.fit_nil)
noncomputable def K15 : Exit → List AV → Heap → Option (Sh.Ts [.bool]) := fun e t h => outK (P := Try.prog) Try.f15 [.bool] e t h
noncomputable def rk15o0 (N0 : Nat) : Exit → List AV → Heap → Option (Sh.Ts [.bool]) := (blkK 0 (seqK Try.prog env15 (Sh.nes [PaneSh]) 197 (L15 N0) [1, 1, 1] ((subAt c15 [1, 1, 1]).getD .skip) K15))
noncomputable def t15o0 (N0 : Nat) (x : Sh.Ts [PaneSh]) (i8 : Int) : List AV := [AV.any, AV.ptr 3 0, AV.any, AV.val (Value.int IntKind.i64 i8), AV.any, AV.any, AV.any, AV.any, AV.any, AV.any, AV.any, AV.any, AV.any, AV.any, AV.any, AV.any, AV.any, AV.any, AV.any, AV.any, AV.any, AV.any, AV.any, AV.any, AV.any, AV.any, AV.any, AV.any, AV.any, AV.any, AV.any, AV.any, AV.any, AV.any]
noncomputable def h15o0 (N0 : Nat) (x : Sh.Ts [PaneSh]) (i8 : Int) : Heap := [Ent.live (Blk.mk (Cells.arr (Sh.int IntKind.i64) x.fst.fst) false none), Ent.live (Blk.mk (Cells.arr (Sh.int IntKind.i64) x.fst.snd.fst) false none), Ent.live (Blk.mk (Cells.arrs (Sh.int IntKind.i64) x.fst.snd.snd.fst) false none), Ent.live (Blk.mk (Cells.lit [AV.slc 0 0 (List.length x.fst.fst) Cap.low, AV.slc 1 0 (List.length x.fst.snd.fst) Cap.low, AV.slc 2 0 (List.length x.fst.snd.snd.fst) Cap.low]) true none)]
noncomputable def tx15o0o0 (N0 : Nat) (x : Sh.Ts [PaneSh]) : List AV := [AV.any, AV.any, AV.val (Value.bool false), AV.any, AV.any, AV.any, AV.any, AV.any, AV.any, AV.any, AV.any, AV.any, AV.any, AV.any, AV.any, AV.any, AV.any, AV.any, AV.any, AV.any, AV.any, AV.any, AV.any, AV.any, AV.any, AV.any, AV.any, AV.any, AV.any, AV.any, AV.any, AV.any, AV.any, AV.any]
noncomputable def hx15o0o0 (N0 : Nat) (x : Sh.Ts [PaneSh]) : Heap := [Ent.live (Blk.mk (Cells.arr (Sh.int IntKind.i64) x.fst.fst) false none), Ent.live (Blk.mk (Cells.arr (Sh.int IntKind.i64) x.fst.snd.fst) false none), Ent.live (Blk.mk (Cells.arrs (Sh.int IntKind.i64) x.fst.snd.snd.fst) false none)]
noncomputable def tx15o0o1 (N0 : Nat) (x : Sh.Ts [PaneSh]) : List AV := [AV.any, AV.any, AV.any, AV.any, AV.any, AV.any, AV.any, AV.any, AV.any, AV.any, AV.any, AV.any, AV.any, AV.any, AV.any, AV.any, AV.any, AV.any, AV.any, AV.any, AV.any, AV.any, AV.any, AV.any, AV.any, AV.any, AV.any, AV.any, AV.any, AV.any, AV.any, AV.any, AV.any, AV.any]
noncomputable def hx15o0o1 (N0 : Nat) (x : Sh.Ts [PaneSh]) : Heap := [Ent.live (Blk.mk (Cells.arr (Sh.int IntKind.i64) x.fst.fst) false none), Ent.live (Blk.mk (Cells.arr (Sh.int IntKind.i64) x.fst.snd.fst) false none), Ent.live (Blk.mk (Cells.arrs (Sh.int IntKind.i64) x.fst.snd.snd.fst) false none)]
noncomputable def law15o0 {β : Type} (N0 : Nat) (x : (PaneT × Unit)) (k0 : Option β) (k1 : Option β) : Nat → Int → Option β
  | 0, _ => none
  | n + 1, i8 => (bif decide (i8 < (↑(List.length x.fst.snd.snd.fst) : Int)) then (bif decide (0 ≤ i8) && decide (i8 < (↑(List.length x.fst.snd.snd.fst) : Int)) then (Option.bind x.fst.snd.snd.fst[i8.toNat]? fun v9 => (bif decide ((↑v9.length : Int) > 40) then k0 else law15o0 N0 x k0 k1 n (IntKind.i64.wrap (i8 + 1)))) else none) else k1)
theorem leq15o0 {β : Type} (N0 : Nat) (x : Sh.Ts [PaneSh]) (K : Exit → List AV → Heap → Option β) : ∀ (n : Nat) (i8 : Int), ln15o0 N0 n (t15o0 N0 x i8) (h15o0 N0 x i8) K = law15o0 N0 x (K (Exit.ret) (tx15o0o0 N0 x) (hx15o0o0 N0 x)) (K (Exit.exit 0) (tx15o0o1 N0 x) (hx15o0o1 N0 x)) n i8
  | 0, _ => rfl
  | n + 1, i8 => by
    have h : ln15o0 N0 (n + 1) (t15o0 N0 x i8) (h15o0 N0 x i8) K = (bif decide (i8 < (↑(List.length x.fst.snd.snd.fst) : Int)) then (bif decide (0 ≤ i8) && decide (i8 < (↑(List.length x.fst.snd.snd.fst) : Int)) then (Option.bind (x.fst.snd.snd.fst[0 + i8.toNat]?) fun v9 => (bif decide ((↑v9.length : Int) > 40) then K (Exit.ret) (tx15o0o0 N0 x) (hx15o0o0 N0 x) else ln15o0 N0 n (t15o0 N0 x (IntKind.i64.wrap (i8 + 1))) (h15o0 N0 x (IntKind.i64.wrap (i8 + 1))) K)) else none) else K (Exit.exit 0) (tx15o0o1 N0 x) (hx15o0o1 N0 x)) := by kernel_rfl
    rw [h]
    simp only [decide_self, decide_true, Nat.zero_add, Bool.and_true, Bool.true_and, cond_true, law15o0, leq15o0 N0 x K n]
theorem rest15o0o0 (N0 : Nat) (x : Sh.Ts [PaneSh]) : rk15o0 N0 (Exit.ret) (tx15o0o0 N0 x) (hx15o0o0 N0 x) = some ((false, ())) := by kernel_rfl
theorem rest15o0o1 (N0 : Nat) (x : Sh.Ts [PaneSh]) : rk15o0 N0 (Exit.exit 0) (tx15o0o1 N0 x) (hx15o0o1 N0 x) = some ((true, ())) := by kernel_rfl
noncomputable def law15 (N0 : Nat) (x : (PaneT × Unit)) : Option ((Bool × Unit)) := (bif decide ((↑(List.length x.fst.fst) : Int) > 40) then some ((false, ())) else (bif decide ((↑(List.length x.fst.snd.fst) : Int) > 40) then some ((false, ())) else (bif decide ((↑(List.length x.fst.snd.snd.fst) : Int) > 40) then some ((false, ())) else (law15o0 N0 x (some ((false, ()))) (some ((true, ()))) N0 0))))
theorem eq15 (N0 : Nat) (x : Sh.Ts [PaneSh]) : codeLaw Try.prog env15 200 (L15 N0) Try.f15 c15 [PaneSh] [.bool] x = law15 N0 x := by
  have h : codeLaw Try.prog env15 200 (L15 N0) Try.f15 c15 [PaneSh] [.bool] x = (bif decide ((↑(List.length x.fst.fst) : Int) > 40) then some ((false, ())) else (bif decide ((↑(List.length x.fst.snd.fst) : Int) > 40) then some ((false, ())) else (bif decide ((↑(List.length x.fst.snd.snd.fst) : Int) > 40) then some ((false, ())) else (ln15o0 N0 N0 (t15o0 N0 x 0) (h15o0 N0 x 0) (rk15o0 N0))))) := by kernel_rfl
  rw [h]
  unfold law15
  simp only [decide_self, decide_true, Nat.zero_add, Bool.and_true, Bool.true_and, cond_true, leq15o0, rest15o0o0, rest15o0o1]
noncomputable def fn15 (x : (PaneT × Unit)) : Option ((Bool × Unit)) := law15 (10 ^ 30) x
theorem reads15 : Reads Try.prog 15 [PaneSh] [.bool] fn15 := (Reads.of_code mixed (fn := Try.f15) (c := c15) Try.func15 (by kernel_rfl) (by kernel_rfl) env15 200 (L15_fit _) (by kernel_rfl)).to (eq15 _)
noncomputable def s15 : Summ Try.prog := reads15.summ
/- chicane/chicanelaw17.Few -/
noncomputable def c6 : Code := (Try.f6.body.getD .skip)
noncomputable def env6 : Env Try.prog := [s15]
noncomputable def L6 : Loops Try.prog := []
theorem L6_fit : (L6).fit c6 := Loops.fit_nil
noncomputable def law6 (x : (CarT × Unit)) : Option ((Bool × Unit)) := (bif decide ((↑(List.length x.fst.snd.snd.snd.snd.fst) : Int) ≤ 40) then (bif decide ((↑(List.length x.fst.snd.snd.snd.snd.snd.snd.fst) : Int) ≤ 40) then (bif decide ((↑(List.length x.fst.snd.snd.snd.snd.snd.snd.snd.fst) : Int) ≤ 40) then (bif decide ((↑(List.length x.fst.snd.snd.snd.snd.snd.snd.snd.snd.snd.snd.snd.snd.snd.snd.snd.snd.fst) : Int) ≤ 20) then (Option.bind (fn15 (x.fst.snd.snd.snd.snd.snd.fst, ())) fun v0 => some ((v0.fst, ()))) else some ((false, ()))) else some ((false, ()))) else some ((false, ()))) else some ((false, ())))
theorem eq6 (x : Sh.Ts [CarSh]) : codeLaw Try.prog env6 200 (L6) Try.f6 c6 [CarSh] [.bool] x = law6 x := by
  have h : codeLaw Try.prog env6 200 (L6) Try.f6 c6 [CarSh] [.bool] x = (bif decide ((↑(List.length x.fst.snd.snd.snd.snd.fst) : Int) ≤ 40) then (bif decide ((↑(List.length x.fst.snd.snd.snd.snd.snd.snd.fst) : Int) ≤ 40) then (bif decide ((↑(List.length x.fst.snd.snd.snd.snd.snd.snd.snd.fst) : Int) ≤ 40) then (bif decide ((↑(List.length x.fst.snd.snd.snd.snd.snd.snd.snd.snd.snd.snd.snd.snd.snd.snd.snd.snd.fst) : Int) ≤ 20) then (bif decide (List.length x.fst.snd.snd.snd.snd.snd.fst.fst = List.length x.fst.snd.snd.snd.snd.snd.fst.fst) && (decide (List.length x.fst.snd.snd.snd.snd.snd.fst.snd.fst = List.length x.fst.snd.snd.snd.snd.snd.fst.snd.fst) && (decide (List.length x.fst.snd.snd.snd.snd.snd.fst.snd.snd.fst = List.length x.fst.snd.snd.snd.snd.snd.fst.snd.snd.fst) && true)) && true then (Option.bind (fn15 (x.fst.snd.snd.snd.snd.snd.fst, ())) fun v0 => some ((v0.fst, ()))) else none) else some ((false, ()))) else some ((false, ()))) else some ((false, ()))) else some ((false, ()))) := by kernel_rfl
  rw [h]
  unfold law6
  simp only [decide_self, decide_true, Nat.zero_add, Bool.and_true, Bool.true_and, cond_true]
noncomputable def fn6 (x : (CarT × Unit)) : Option ((Bool × Unit)) := law6 x
theorem reads6 : Reads Try.prog 6 [CarSh] [.bool] fn6 := (Reads.of_code mixed (fn := Try.f6) (c := c6) Try.func6 (by kernel_rfl) (by kernel_rfl) env6 200 (L6_fit) (by kernel_rfl)).to (eq6)
noncomputable def s6 : Summ Try.prog := reads6.summ
/- chicane/chicanelaw17.whole -/
noncomputable def c21 : Code := (Try.f21.body.getD .skip)
noncomputable def env21 : Env Try.prog := []
noncomputable def s21 : Summ Try.prog := inlSumm allRw mixed 21 Try.f21 c21 Try.func21 (by kernel_rfl) (by kernel_rfl) env21 200 [] Loops.fit_nil
/- chicane/chicanelaw17.Sample -/
noncomputable def c17 : Code := (Try.f17.body.getD .skip)
noncomputable def env17 : Env Try.prog := [s21]
noncomputable def s17 : Summ Try.prog := inlSumm allRw mixed 17 Try.f17 c17 Try.func17 (by kernel_rfl) (by kernel_rfl) env17 200 [] Loops.fit_nil
/- chicane/gearbox.Wanted -/
noncomputable def ci9 : Code := (Try.f9.body.getD .skip)
noncomputable def envi9 : Env Try.prog := []
noncomputable def i9 : Summ Try.prog := inlSumm onlyM mixed 9 Try.f9 ci9 Try.func9 (by kernel_rfl) (by kernel_rfl) envi9 200 [] Loops.fit_nil
/- chicane/gearbox.Shift -/
noncomputable def ci7 : Code := (Try.f7.body.getD .skip)
noncomputable def envi7 : Env Try.prog := [i9]
noncomputable def i7 : Summ Try.prog := inlSumm onlyM mixed 7 Try.f7 ci7 Try.func7 (by kernel_rfl) (by kernel_rfl) envi7 200 [] Loops.fit_nil
/- chicane/gearbox.Shut -/
noncomputable def ci11 : Code := (Try.f11.body.getD .skip)
noncomputable def envi11 : Env Try.prog := []
noncomputable def i11 : Summ Try.prog := inlSumm onlyM mixed 11 Try.f11 ci11 Try.func11 (by kernel_rfl) (by kernel_rfl) envi11 200 [] Loops.fit_nil
/- chicane/chicanelaw22.awake -/
noncomputable def c13 : Code := (Try.f13.body.getD .skip)
noncomputable def env13 : Env Try.prog := [s17, i7, i11]
noncomputable def fn13 (x : (Unit)) : Option ((Bool × Unit)) := some (true, ())
theorem eq13 (x : Sh.Ts []) : codeLaw Try.prog env13 200 [] Try.f13 c13 [] [.bool] x = fn13 x := by kernel_rfl
theorem reads13 : Reads Try.prog 13 [] [.bool] fn13 := (Reads.of_code mixed (fn := Try.f13) (c := c13) Try.func13 (by kernel_rfl) (by kernel_rfl) env13 200 Loops.fit_nil (by kernel_rfl)).to eq13
noncomputable def s13 : Summ Try.prog := reads13.summ
/- chicane/gearbox.Wanted -/
noncomputable def c9 : Code := (Try.f9.body.getD .skip)
noncomputable def env9 : Env Try.prog := []
noncomputable def L9 : Loops Try.prog := []
theorem L9_fit : (L9).fit c9 := Loops.fit_nil
noncomputable def law9 (x : (CarT × DriveT × ControlT × Unit)) : Option ((Int × Unit)) := (bif x.snd.snd.fst.snd.snd.snd.snd.snd.fst then (bif x.snd.snd.fst.snd.snd.snd.snd.fst == -1 then (bif x.snd.snd.fst.snd.snd.snd.snd.fst == -1 then some ((x.snd.snd.fst.snd.snd.snd.snd.fst, ())) else (bif decide (x.snd.fst.snd.snd.fst < 1) then some ((1, ())) else (bif decide (x.snd.fst.fst > x.fst.snd.snd.snd.snd.snd.snd.snd.snd.snd.snd.snd.snd.snd.snd.snd.snd.snd.snd.snd.snd.snd.snd.snd.snd.snd.snd.snd.snd.snd.snd.fst) then (bif decide (x.snd.fst.snd.snd.fst < (↑(List.length x.fst.snd.snd.snd.snd.snd.snd.snd.snd.snd.snd.snd.snd.snd.snd.snd.snd.fst) : Int)) then some ((IntKind.i64.wrap (x.snd.fst.snd.snd.fst + 1), ())) else (bif decide (x.snd.fst.fst < x.fst.snd.snd.snd.snd.snd.snd.snd.snd.snd.snd.snd.snd.snd.snd.snd.snd.snd.snd.snd.snd.snd.snd.snd.snd.snd.snd.snd.snd.snd.snd.snd.fst) then (bif decide (x.snd.fst.snd.snd.fst > 1) then some ((IntKind.i64.wrap (x.snd.fst.snd.snd.fst - 1), ())) else some ((x.snd.fst.snd.snd.fst, ()))) else some ((x.snd.fst.snd.snd.fst, ())))) else (bif decide (x.snd.fst.fst < x.fst.snd.snd.snd.snd.snd.snd.snd.snd.snd.snd.snd.snd.snd.snd.snd.snd.snd.snd.snd.snd.snd.snd.snd.snd.snd.snd.snd.snd.snd.snd.snd.fst) then (bif decide (x.snd.fst.snd.snd.fst > 1) then some ((IntKind.i64.wrap (x.snd.fst.snd.snd.fst - 1), ())) else some ((x.snd.fst.snd.snd.fst, ()))) else some ((x.snd.fst.snd.snd.fst, ())))))) else (bif x.snd.snd.fst.snd.snd.snd.snd.fst == 0 then some ((x.snd.snd.fst.snd.snd.snd.snd.fst, ())) else (bif decide (x.snd.fst.snd.snd.fst < 1) then some ((1, ())) else (bif decide (x.snd.fst.fst > x.fst.snd.snd.snd.snd.snd.snd.snd.snd.snd.snd.snd.snd.snd.snd.snd.snd.snd.snd.snd.snd.snd.snd.snd.snd.snd.snd.snd.snd.snd.snd.fst) then (bif decide (x.snd.fst.snd.snd.fst < (↑(List.length x.fst.snd.snd.snd.snd.snd.snd.snd.snd.snd.snd.snd.snd.snd.snd.snd.snd.fst) : Int)) then some ((IntKind.i64.wrap (x.snd.fst.snd.snd.fst + 1), ())) else (bif decide (x.snd.fst.fst < x.fst.snd.snd.snd.snd.snd.snd.snd.snd.snd.snd.snd.snd.snd.snd.snd.snd.snd.snd.snd.snd.snd.snd.snd.snd.snd.snd.snd.snd.snd.snd.snd.fst) then (bif decide (x.snd.fst.snd.snd.fst > 1) then some ((IntKind.i64.wrap (x.snd.fst.snd.snd.fst - 1), ())) else some ((x.snd.fst.snd.snd.fst, ()))) else some ((x.snd.fst.snd.snd.fst, ())))) else (bif decide (x.snd.fst.fst < x.fst.snd.snd.snd.snd.snd.snd.snd.snd.snd.snd.snd.snd.snd.snd.snd.snd.snd.snd.snd.snd.snd.snd.snd.snd.snd.snd.snd.snd.snd.snd.snd.fst) then (bif decide (x.snd.fst.snd.snd.fst > 1) then some ((IntKind.i64.wrap (x.snd.fst.snd.snd.fst - 1), ())) else some ((x.snd.fst.snd.snd.fst, ()))) else some ((x.snd.fst.snd.snd.fst, ()))))))) else (bif decide (-1 ≤ x.snd.snd.fst.snd.snd.snd.snd.fst) then (bif decide (x.snd.snd.fst.snd.snd.snd.snd.fst ≤ (↑(List.length x.fst.snd.snd.snd.snd.snd.snd.snd.snd.snd.snd.snd.snd.snd.snd.snd.snd.fst) : Int)) then some ((x.snd.snd.fst.snd.snd.snd.snd.fst, ())) else some ((x.snd.fst.snd.snd.fst, ()))) else some ((x.snd.fst.snd.snd.fst, ()))))
theorem eq9 (x : Sh.Ts [CarSh, DriveSh, ControlSh]) : codeLaw Try.prog env9 200 (L9) Try.f9 c9 [CarSh, DriveSh, ControlSh] [.int .i64] x = law9 x := by kernel_rfl
noncomputable def fn9 (x : (CarT × DriveT × ControlT × Unit)) : Option ((Int × Unit)) := law9 x
theorem reads9 : Reads Try.prog 9 [CarSh, DriveSh, ControlSh] [.int .i64] fn9 := (Reads.of_code mixed (fn := Try.f9) (c := c9) Try.func9 (by kernel_rfl) (by kernel_rfl) env9 200 (L9_fit) (by kernel_rfl)).to (eq9)
noncomputable def s9 : Summ Try.prog := reads9.summ
/- chicane/gearbox.Shift -/
noncomputable def c7 : Code := (Try.f7.body.getD .skip)
noncomputable def env7 : Env Try.prog := [s9]
noncomputable def L7 : Loops Try.prog := []
theorem L7_fit : (L7).fit c7 := Loops.fit_nil
noncomputable def law7 (x : (CarT × DriveT × ControlT × Int × Unit)) : Option ((Int × Int × Unit)) := (bif decide (x.snd.fst.snd.snd.snd.fst > 0) then some ((x.snd.fst.snd.snd.fst, IntKind.i64.wrap (x.snd.fst.snd.snd.snd.fst - 1), ())) else (Option.bind (fn9 (x.fst, x.snd.fst, x.snd.snd.fst, ())) fun v0 => (bif v0.fst != x.snd.fst.snd.snd.fst then some ((v0.fst, if 1 > IntKind.i64.wrap (Int.tdiv x.snd.snd.snd.fst 4) then 1 else IntKind.i64.wrap (Int.tdiv x.snd.snd.snd.fst 4), ())) else some ((v0.fst, 0, ())))))
theorem eq7 (x : Sh.Ts [CarSh, DriveSh, ControlSh, Sh.int IntKind.i64]) : codeLaw Try.prog env7 200 (L7) Try.f7 c7 [CarSh, DriveSh, ControlSh, .int .i64] [.int .i64, .int .i64] x = law7 x := by
  have h : codeLaw Try.prog env7 200 (L7) Try.f7 c7 [CarSh, DriveSh, ControlSh, .int .i64] [.int .i64, .int .i64] x = (bif decide (x.snd.fst.snd.snd.snd.fst > 0) then some ((x.snd.fst.snd.snd.fst, IntKind.i64.wrap (x.snd.fst.snd.snd.snd.fst - 1), ())) else (bif decide (List.length x.fst.snd.snd.snd.snd.fst = List.length x.fst.snd.snd.snd.snd.fst) && (decide (List.length x.fst.snd.snd.snd.snd.snd.fst.fst = List.length x.fst.snd.snd.snd.snd.snd.fst.fst) && (decide (List.length x.fst.snd.snd.snd.snd.snd.fst.snd.fst = List.length x.fst.snd.snd.snd.snd.snd.fst.snd.fst) && (decide (List.length x.fst.snd.snd.snd.snd.snd.fst.snd.snd.fst = List.length x.fst.snd.snd.snd.snd.snd.fst.snd.snd.fst) && true)) && (decide (List.length x.fst.snd.snd.snd.snd.snd.snd.fst = List.length x.fst.snd.snd.snd.snd.snd.snd.fst) && (decide (List.length x.fst.snd.snd.snd.snd.snd.snd.snd.fst = List.length x.fst.snd.snd.snd.snd.snd.snd.snd.fst) && (decide (List.length x.fst.snd.snd.snd.snd.snd.snd.snd.snd.snd.snd.snd.snd.snd.snd.snd.snd.fst = List.length x.fst.snd.snd.snd.snd.snd.snd.snd.snd.snd.snd.snd.snd.snd.snd.snd.snd.fst) && true)))) && true then (Option.bind (fn9 (x.fst, x.snd.fst, x.snd.snd.fst, ())) fun v0 => (bif v0.fst != x.snd.fst.snd.snd.fst then some ((v0.fst, if 1 > IntKind.i64.wrap (Int.tdiv x.snd.snd.snd.fst 4) then 1 else IntKind.i64.wrap (Int.tdiv x.snd.snd.snd.fst 4), ())) else some ((v0.fst, 0, ())))) else none)) := by kernel_rfl
  rw [h]
  unfold law7
  simp only [decide_self, decide_true, Nat.zero_add, Bool.and_true, Bool.true_and, cond_true]
noncomputable def fn7 (x : (CarT × DriveT × ControlT × Int × Unit)) : Option ((Int × Int × Unit)) := law7 x
theorem reads7 : Reads Try.prog 7 [CarSh, DriveSh, ControlSh, .int .i64] [.int .i64, .int .i64] fn7 := (Reads.of_code mixed (fn := Try.f7) (c := c7) Try.func7 (by kernel_rfl) (by kernel_rfl) env7 200 (L7_fit) (by kernel_rfl)).to (eq7)
noncomputable def s7 : Summ Try.prog := reads7.summ
end Go.Proofs.Ytkcmgjbonmalmaa
