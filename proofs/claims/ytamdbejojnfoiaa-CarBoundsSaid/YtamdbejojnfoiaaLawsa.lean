/- What functions of this program tell of their arguments: for each a law, and that the function keeps to it. -/
import Derived.Test.YtamdbejojnfoiaaBase
set_option linter.unusedVariables false
set_option linter.unusedSimpArgs false
set_option maxRecDepth 100000
namespace Go.Proofs.Ytamdbejojnfoiaa
open Go Go.Ab Go.Proofs
/- chicane/car.ranged$1 -/
noncomputable def c48 : Code := (Try.f48.body.getD .skip)
noncomputable def env48 : Env Try.prog := []
noncomputable def L48 : Loops Try.prog := []
theorem L48_fit : (L48).fit c48 := Loops.fit_nil
noncomputable def law48 (x : (boundT × Unit)) : Option ((Bool × Unit)) := (bif decide (x.fst.fst < x.fst.snd.fst) then some ((true, ())) else some ((decide (x.fst.fst > x.fst.snd.snd.fst), ())))
theorem eq48 (x : Sh.Ts [boundSh]) : codeLaw Try.prog env48 200 (L48) Try.f48 c48 [boundSh] [.bool] x = law48 x := by kernel_rfl
noncomputable def fn48 (x : (boundT × Unit)) : Option ((Bool × Unit)) := law48 x
theorem reads48 : Reads Try.prog 48 [boundSh] [.bool] fn48 := (Reads.of_code mixed (fn := Try.f48) (c := c48) Try.func48 (by kernel_rfl) (by kernel_rfl) env48 200 (L48_fit) (by kernel_rfl)).to (eq48)
noncomputable def s48 : Summ Try.prog := reads48.summ
/- slices.IndexFunc[[]chicane/car.bound,chicane/car.bound] -/
noncomputable def c60x48 : Code := (Try.f60.body.getD .skip)
noncomputable def env60x48 : Env Try.prog := [s48]
noncomputable def b60x48_0 : Code := ((kid ((subAt c60x48 [0, 1, 0, 1]).getD .skip) 0).getD .skip)
noncomputable def kx60x48_0 : Exit → List Nat | .ret => [4] | _ => []
noncomputable def Li60x48_0 (N0 : Nat) : Loops Try.prog := []
noncomputable def ls60x48_0 (N0 : Nat) : LSumm Try.prog := loopSumm mixed env60x48 200 (Li60x48_0 N0) b60x48_0 (Loops.fit_nil) [0, 1, 7, 8] kx60x48_0 (N0)
noncomputable def ln60x48_0 {β : Type} (N0 : Nat) (n : Nat) (t : List AV) (h : Heap) (K : Exit → List AV → Heap → Option β) : Option β := loopN Try.prog env60x48 (Sh.nes [.sl (boundSh)] + Sh.nes [] + List.length (α := Sh) []) 200 (Li60x48_0 N0) b60x48_0 [0, 1, 7, 8] kx60x48_0 n t h K
noncomputable def L60x48 (N0 : Nat) : Loops Try.prog := [([0, 1, 0, 1], ls60x48_0 N0)]
theorem L60x48_fit (N0 : Nat) : (L60x48 N0).fit c60x48 := Loops.fit_cons (by kernel_rfl) (Loops.fit_nil)
noncomputable def K60x48 : Exit → List AV → Heap → Option (Sh.Ts [.int .i64]) := fun e t h => outK (P := Try.prog) Try.f60 [.int .i64] e t h
noncomputable def rk60x48_0 (N0 : Nat) : Exit → List AV → Heap → Option (Sh.Ts [.int .i64]) := (blkK 0 (seqK Try.prog env60x48 (Sh.nes [.sl (boundSh)] + Sh.nes [] + List.length (α := Sh) []) 198 (L60x48 N0) [1, 1] ((subAt c60x48 [1, 1]).getD .skip) K60x48))
noncomputable def t60x48_0 (N0 : Nat) (x : Sh.Ts [boundSh.sl]) (i6 : Int) : List AV := [AV.slc 0 0 (List.length x.fst) Cap.low, AV.fn (Fn.func 48) [] [], AV.any, AV.any, AV.any, AV.any, AV.any, AV.val (Value.int IntKind.i64 (↑(List.length x.fst) : Int)), AV.val (Value.int IntKind.i64 i6), AV.any, AV.any, AV.any, AV.any, AV.any, AV.any, AV.any, AV.any, AV.any, AV.any]
noncomputable def h60x48_0 (N0 : Nat) (x : Sh.Ts [boundSh.sl]) (i6 : Int) : Heap := [Ent.live (Blk.mk (Cells.arr (Sh.st [Sh.int IntKind.i64, Sh.int IntKind.i64, Sh.int IntKind.i64]) x.fst) false none)]
noncomputable def tx60x48_0_0 (N0 : Nat) (x : Sh.Ts [boundSh.sl]) (w9 : Int) : List AV := [AV.any, AV.any, AV.any, AV.any, AV.val (Value.int IntKind.i64 w9), AV.any, AV.any, AV.any, AV.any, AV.any, AV.any, AV.any, AV.any, AV.any, AV.any, AV.any, AV.any, AV.any, AV.any]
noncomputable def hx60x48_0_0 (N0 : Nat) (x : Sh.Ts [boundSh.sl]) (w9 : Int) : Heap := [Ent.live (Blk.mk (Cells.arr (Sh.st [Sh.int IntKind.i64, Sh.int IntKind.i64, Sh.int IntKind.i64]) x.fst) false none)]
noncomputable def tx60x48_0_1 (N0 : Nat) (x : Sh.Ts [boundSh.sl]) : List AV := [AV.any, AV.any, AV.any, AV.any, AV.any, AV.any, AV.any, AV.any, AV.any, AV.any, AV.any, AV.any, AV.any, AV.any, AV.any, AV.any, AV.any, AV.any, AV.any]
noncomputable def hx60x48_0_1 (N0 : Nat) (x : Sh.Ts [boundSh.sl]) : Heap := [Ent.live (Blk.mk (Cells.arr (Sh.st [Sh.int IntKind.i64, Sh.int IntKind.i64, Sh.int IntKind.i64]) x.fst) false none)]
noncomputable def law60x48_0 {β : Type} (N0 : Nat) (x : ((List boundT) × Unit)) (k0 : Int → Option β) (k1 : Option β) : Nat → Int → Option β
  | 0, _ => none
  | n + 1, i6 => (bif decide (i6 < (↑(List.length x.fst) : Int)) then (bif decide (0 ≤ i6) && decide (i6 < (↑(List.length x.fst) : Int)) then (Option.bind x.fst[i6.toNat]? fun v7 => (Option.bind (fn48 (v7, ())) fun v8 => (bif v8.fst then k0 i6 else law60x48_0 N0 x k0 k1 n (IntKind.i64.wrap (i6 + 1))))) else none) else k1)
theorem leq60x48_0 {β : Type} (N0 : Nat) (x : Sh.Ts [boundSh.sl]) (K : Exit → List AV → Heap → Option β) : ∀ (n : Nat) (i6 : Int), ln60x48_0 N0 n (t60x48_0 N0 x i6) (h60x48_0 N0 x i6) K = law60x48_0 N0 x (fun w9 => K (Exit.ret) (tx60x48_0_0 N0 x w9) (hx60x48_0_0 N0 x w9)) (K (Exit.exit 0) (tx60x48_0_1 N0 x) (hx60x48_0_1 N0 x)) n i6
  | 0, _ => rfl
  | n + 1, i6 => by
    have h : ln60x48_0 N0 (n + 1) (t60x48_0 N0 x i6) (h60x48_0 N0 x i6) K = (bif decide (i6 < (↑(List.length x.fst) : Int)) then (bif decide (0 ≤ i6) && decide (i6 < (↑(List.length x.fst) : Int)) then (Option.bind x.fst[i6.toNat]? fun v7 => (Option.bind (fn48 (v7, ())) fun v8 => (bif v8.fst then K (Exit.ret) (tx60x48_0_0 N0 x i6) (hx60x48_0_0 N0 x i6) else ln60x48_0 N0 n (t60x48_0 N0 x (IntKind.i64.wrap (i6 + 1))) (h60x48_0 N0 x (IntKind.i64.wrap (i6 + 1))) K))) else none) else K (Exit.exit 0) (tx60x48_0_1 N0 x) (hx60x48_0_1 N0 x)) := by kernel_rfl
    rw [h]
    simp only [decide_self, decide_true, Nat.zero_add, Bool.and_true, Bool.true_and, cond_true, law60x48_0, leq60x48_0 N0 x K n]
theorem rest60x48_0_0 (N0 : Nat) (x : Sh.Ts [boundSh.sl]) (w10 : Int) : rk60x48_0 N0 (Exit.ret) (tx60x48_0_0 N0 x w10) (hx60x48_0_0 N0 x w10) = some ((w10, ())) := by kernel_rfl
theorem rest60x48_0_1 (N0 : Nat) (x : Sh.Ts [boundSh.sl]) : rk60x48_0 N0 (Exit.exit 0) (tx60x48_0_1 N0 x) (hx60x48_0_1 N0 x) = some ((-1, ())) := by kernel_rfl
noncomputable def law60x48 (N0 : Nat) (x : ((List boundT) × Unit)) (xs : (Unit)) : Option ((Int × Unit)) := (law60x48_0 N0 x (fun w10 => some ((w10, ()))) (some ((-1, ()))) N0 0)
theorem eq60x48 (N0 : Nat) (x : Sh.Ts [boundSh.sl]) (xs : Sh.Ts []) : codeLawC Try.prog env60x48 200 (L60x48 N0) Try.f60 c60x48 [.sl (boundSh)] 48 [] [.int .i64] x xs = law60x48 N0 x xs := by
  have h : codeLawC Try.prog env60x48 200 (L60x48 N0) Try.f60 c60x48 [.sl (boundSh)] 48 [] [.int .i64] x xs = (ln60x48_0 N0 N0 (t60x48_0 N0 x 0) (h60x48_0 N0 x 0) (rk60x48_0 N0)) := by kernel_rfl
  rw [h]
  unfold law60x48
  simp only [decide_self, decide_true, Nat.zero_add, Bool.and_true, Bool.true_and, cond_true, leq60x48_0, rest60x48_0_0, rest60x48_0_1]
noncomputable def fn60x48 (x : ((List boundT) × Unit)) (xs : (Unit)) : Option ((Int × Unit)) := law60x48 (10 ^ 30) x xs
theorem reads60x48 : ReadsC Try.prog 60 [.sl (boundSh)] 48 [] [.int .i64] fn60x48 := (ReadsC.of_code mixed (fn := Try.f60) (c := c60x48) Try.func60 (by kernel_rfl) (by kernel_rfl) env60x48 200 (L60x48_fit _) (by kernel_rfl)).to (eq60x48 _)
noncomputable def s60x48 : Summ Try.prog := reads60x48.summ (by kernel_rfl)
noncomputable def s60 : Summ Try.prog := s60x48
/- slices.ContainsFunc[[]chicane/car.bound,chicane/car.bound] -/
noncomputable def c49x48 : Code := (Try.f49.body.getD .skip)
noncomputable def env49x48 : Env Try.prog := [s60]
noncomputable def L49x48 : Loops Try.prog := []
theorem L49x48_fit : (L49x48).fit c49x48 := Loops.fit_nil
noncomputable def law49x48 (x : ((List boundT) × Unit)) (xs : (Unit)) : Option ((Bool × Unit)) := (Option.bind (fn60x48 x ()) fun v0 => some ((decide (v0.fst ≥ 0), ())))
theorem eq49x48 (x : Sh.Ts [boundSh.sl]) (xs : Sh.Ts []) : codeLawC Try.prog env49x48 200 (L49x48) Try.f49 c49x48 [.sl (boundSh)] 48 [] [.bool] x xs = law49x48 x xs := by
  have h : codeLawC Try.prog env49x48 200 (L49x48) Try.f49 c49x48 [.sl (boundSh)] 48 [] [.bool] x xs = (bif decide (List.length x.fst = List.length x.fst) && true && true then (Option.bind (fn60x48 x ()) fun v0 => some ((decide (v0.fst ≥ 0), ()))) else none) := by kernel_rfl
  rw [h]
  unfold law49x48
  simp only [decide_self, decide_true, Nat.zero_add, Bool.and_true, Bool.true_and, cond_true]
noncomputable def fn49x48 (x : ((List boundT) × Unit)) (xs : (Unit)) : Option ((Bool × Unit)) := law49x48 x xs
theorem reads49x48 : ReadsC Try.prog 49 [.sl (boundSh)] 48 [] [.bool] fn49x48 := (ReadsC.of_code mixed (fn := Try.f49) (c := c49x48) Try.func49 (by kernel_rfl) (by kernel_rfl) env49x48 200 (L49x48_fit) (by kernel_rfl)).to (eq49x48)
noncomputable def s49x48 : Summ Try.prog := reads49x48.summ (by kernel_rfl)
noncomputable def s49 : Summ Try.prog := s49x48
/- chicane/car.ranged -/
noncomputable def c31 : Code := (Try.f31.body.getD .skip)
noncomputable def env31 : Env Try.prog := [s48, s49]
noncomputable def L31 : Loops Try.prog := []
theorem L31_fit : (L31).fit c31 := Loops.fit_nil
noncomputable def law31 (x : ((List boundT) × Unit)) : Option ((Int × Unit)) := (Option.bind (fn49x48 x ()) fun v0 => (bif v0.fst then some ((40, ())) else some ((0, ()))))
theorem eq31 (x : Sh.Ts [boundSh.sl]) : codeLaw Try.prog env31 200 (L31) Try.f31 c31 [.sl (boundSh)] [.int .i64] x = law31 x := by
  have h : codeLaw Try.prog env31 200 (L31) Try.f31 c31 [.sl (boundSh)] [.int .i64] x = (bif decide (List.length x.fst = List.length x.fst) && true && true then (Option.bind (fn49x48 x ()) fun v0 => (bif v0.fst then some ((40, ())) else some ((0, ())))) else none) := by kernel_rfl
  rw [h]
  unfold law31
  simp only [decide_self, decide_true, Nat.zero_add, Bool.and_true, Bool.true_and, cond_true]
noncomputable def fn31 (x : ((List boundT) × Unit)) : Option ((Int × Unit)) := law31 x
theorem reads31 : Reads Try.prog 31 [.sl (boundSh)] [.int .i64] fn31 := (Reads.of_code mixed (fn := Try.f31) (c := c31) Try.func31 (by kernel_rfl) (by kernel_rfl) env31 200 (L31_fit) (by kernel_rfl)).to (eq31)
noncomputable def s31 : Summ Try.prog := reads31.summ
/- chicane/car.body -/
noncomputable def c29 : Code := (Try.f29.body.getD .skip)
noncomputable def env29 : Env Try.prog := [s31]
noncomputable def L29 : Loops Try.prog := []
theorem L29_fit : (L29).fit c29 := Loops.fit_nil
noncomputable def law29 (x : (CarT × Unit)) : Option ((Int × Unit)) := (Option.bind (fn31 ([(x.fst.fst, 274877906944, 35184372088832, ()), (x.fst.snd.fst.fst, 68719476736, 281474976710656, ()), (x.fst.snd.fst.snd.fst, 68719476736, 281474976710656, ()), (x.fst.snd.fst.snd.snd.fst, 68719476736, 281474976710656, ()), (x.fst.snd.snd.snd.snd.snd.snd.snd.snd.snd.snd.snd.snd.snd.snd.snd.snd.snd.snd.snd.snd.snd.snd.snd.snd.snd.fst, 2147483648, 17179869184, ()), (x.fst.snd.snd.snd.snd.snd.snd.snd.snd.snd.snd.snd.snd.snd.snd.snd.snd.snd.snd.snd.snd.snd.snd.snd.snd.snd.snd.fst, 0, 4294967296, ()), (x.fst.snd.snd.snd.snd.snd.snd.snd.snd.snd.snd.snd.snd.snd.snd.snd.snd.snd.snd.snd.snd.snd.snd.snd.snd.snd.snd.snd.fst, 0, 4294967296, ())], ())) fun v0 => some ((v0.fst, ())))
theorem eq29 (x : Sh.Ts [CarSh]) : codeLaw Try.prog env29 200 (L29) Try.f29 c29 [CarSh] [.int .i64] x = law29 x := by kernel_rfl
noncomputable def fn29 (x : (CarT × Unit)) : Option ((Int × Unit)) := law29 x
theorem reads29 : Reads Try.prog 29 [CarSh] [.int .i64] fn29 := (Reads.of_code mixed (fn := Try.f29) (c := c29) Try.func29 (by kernel_rfl) (by kernel_rfl) env29 200 (L29_fit) (by kernel_rfl)).to (eq29)
noncomputable def s29 : Summ Try.prog := reads29.summ
/- chicane/car.wheel -/
noncomputable def c30 : Code := (Try.f30.body.getD .skip)
noncomputable def env30 : Env Try.prog := [s31]
noncomputable def L30 : Loops Try.prog := []
theorem L30_fit : (L30).fit c30 := Loops.fit_nil
noncomputable def law30 (x : (WheelT × Unit)) : Option ((Int × Unit)) := (Option.bind (fn31 ([(x.fst.fst.fst, -17179869184, 17179869184, ()), (x.fst.fst.snd.fst, -17179869184, 17179869184, ()), (x.fst.fst.snd.snd.fst, -8589934592, 8589934592, ()), (x.fst.snd.fst, 536870912, 4294967296, ()), (x.fst.snd.snd.fst, 536870912, 274877906944, ()), (x.fst.snd.snd.snd.fst, 4398046511104, 1125899906842624, ()), (x.fst.snd.snd.snd.snd.fst, 67108864, 2147483648, ()), (x.fst.snd.snd.snd.snd.snd.fst, 0, 4503599627370496, ())], ())) fun v0 => some ((v0.fst, ())))
theorem eq30 (x : Sh.Ts [WheelSh]) : codeLaw Try.prog env30 200 (L30) Try.f30 c30 [WheelSh] [.int .i64] x = law30 x := by kernel_rfl
noncomputable def fn30 (x : (WheelT × Unit)) : Option ((Int × Unit)) := law30 x
theorem reads30 : Reads Try.prog 30 [WheelSh] [.int .i64] fn30 := (Reads.of_code mixed (fn := Try.f30) (c := c30) Try.func30 (by kernel_rfl) (by kernel_rfl) env30 200 (L30_fit) (by kernel_rfl)).to (eq30)
noncomputable def s30 : Summ Try.prog := reads30.summ
/- chicane/table.Right -/
noncomputable def c50 : Code := (Try.f50.body.getD .skip)
noncomputable def env50 : Env Try.prog := []
noncomputable def b50o0 : Code := ((kid ((subAt c50 [0, 1, 0, 1, 1]).getD .skip) 0).getD .skip)
noncomputable def kx50o0 : Exit → List Nat | .ret => [2] | _ => []
noncomputable def Li50o0 (N0 : Nat) : Loops Try.prog := []
noncomputable def ls50o0 (N0 : Nat) : LSumm Try.prog := loopSumm mixed env50 200 (Li50o0 N0) b50o0 (Loops.fit_nil) [0, 13, 14, 15] kx50o0 (N0)
noncomputable def ln50o0 {β : Type} (N0 : Nat) (n : Nat) (t : List AV) (h : Heap) (K : Exit → List AV → Heap → Option β) : Option β := loopN Try.prog env50 (Sh.nes [.sl (DotSh)]) 200 (Li50o0 N0) b50o0 [0, 13, 14, 15] kx50o0 n t h K
noncomputable def L50 (N0 : Nat) : Loops Try.prog := [([0, 1, 0, 1, 1], ls50o0 N0)]
theorem L50_fit (N0 : Nat) : (L50 N0).fit c50 := Loops.fit_cons (by kernel_rfl) (Loops.fit_nil)
noncomputable def K50 : Exit → List AV → Heap → Option (Sh.Ts [.int .i64]) := fun e t h => outK (P := Try.prog) Try.f50 [.int .i64] e t h
noncomputable def rk50o0 (N0 : Nat) : Exit → List AV → Heap → Option (Sh.Ts [.int .i64]) := (blkK 0 (seqK Try.prog env50 (Sh.nes [.sl (DotSh)]) 197 (L50 N0) [1, 1, 1] ((subAt c50 [1, 1, 1]).getD .skip) K50))
noncomputable def t50o0 (N0 : Nat) (x : Sh.Ts [DotSh.sl]) (i7 : Int) : List AV := [AV.slc 0 0 (List.length x.fst) Cap.low, AV.any, AV.any, AV.any, AV.any, AV.any, AV.any, AV.any, AV.any, AV.any, AV.any, AV.any, AV.any, AV.slc 0 0 (List.length x.fst) Cap.low, AV.val (Value.int IntKind.i64 (↑(List.length x.fst) : Int)), AV.val (Value.int IntKind.i64 i7), AV.any, AV.any, AV.any, AV.any, AV.any, AV.any, AV.any, AV.any, AV.any, AV.any, AV.any, AV.any, AV.any, AV.any, AV.any, AV.any, AV.any, AV.any, AV.any, AV.any, AV.any, AV.any, AV.any, AV.any, AV.any, AV.any, AV.any, AV.any, AV.any, AV.any, AV.any, AV.any, AV.any, AV.any]
noncomputable def h50o0 (N0 : Nat) (x : Sh.Ts [DotSh.sl]) (i7 : Int) : Heap := [Ent.live (Blk.mk (Cells.arr (Sh.st [Sh.int IntKind.i64, Sh.int IntKind.i64]) x.fst) false none)]
noncomputable def tx50o0o0 (N0 : Nat) (x : Sh.Ts [DotSh.sl]) (w10 : Int) : List AV := [AV.any, AV.any, AV.val (Value.int IntKind.i64 w10), AV.any, AV.any, AV.any, AV.any, AV.any, AV.any, AV.any, AV.any, AV.any, AV.any, AV.any, AV.any, AV.any, AV.any, AV.any, AV.any, AV.any, AV.any, AV.any, AV.any, AV.any, AV.any, AV.any, AV.any, AV.any, AV.any, AV.any, AV.any, AV.any, AV.any, AV.any, AV.any, AV.any, AV.any, AV.any, AV.any, AV.any, AV.any, AV.any, AV.any, AV.any, AV.any, AV.any, AV.any, AV.any, AV.any, AV.any]
noncomputable def hx50o0o0 (N0 : Nat) (x : Sh.Ts [DotSh.sl]) (w10 : Int) : Heap := [Ent.live (Blk.mk (Cells.arr (Sh.st [Sh.int IntKind.i64, Sh.int IntKind.i64]) x.fst) false none)]
noncomputable def tx50o0o1 (N0 : Nat) (x : Sh.Ts [DotSh.sl]) : List AV := [AV.any, AV.any, AV.any, AV.any, AV.any, AV.any, AV.any, AV.any, AV.any, AV.any, AV.any, AV.any, AV.any, AV.any, AV.any, AV.any, AV.any, AV.any, AV.any, AV.any, AV.any, AV.any, AV.any, AV.any, AV.any, AV.any, AV.any, AV.any, AV.any, AV.any, AV.any, AV.any, AV.any, AV.any, AV.any, AV.any, AV.any, AV.any, AV.any, AV.any, AV.any, AV.any, AV.any, AV.any, AV.any, AV.any, AV.any, AV.any, AV.any, AV.any]
noncomputable def hx50o0o1 (N0 : Nat) (x : Sh.Ts [DotSh.sl]) : Heap := [Ent.live (Blk.mk (Cells.arr (Sh.st [Sh.int IntKind.i64, Sh.int IntKind.i64]) x.fst) false none)]
noncomputable def law50o0 {β : Type} (N0 : Nat) (x : ((List DotT) × Unit)) (k0 : Int → Option β) (k1 : Option β) : Nat → Int → Option β
  | 0, _ => none
  | n + 1, i7 => (bif decide (i7 < (↑(List.length x.fst) : Int)) then (bif decide (0 ≤ i7) && decide (i7 < (↑(List.length x.fst) : Int)) then (Option.bind x.fst[i7.toNat]? fun v8 => (bif decide ((if v8.snd.fst > v8.fst then v8.snd.fst else v8.fst) > 4503599627370496) then k0 40 else (bif decide ((if v8.snd.fst < v8.fst then v8.snd.fst else v8.fst) < -4503599627370496) then k0 40 else (bif decide (i7 > 0) then (bif decide (0 ≤ IntKind.i64.wrap (i7 - 1)) && decide (IntKind.i64.wrap (i7 - 1) < (↑(List.length x.fst) : Int)) then (Option.bind (x.fst[(IntKind.i64.wrap (i7 - 1)).toNat]?) fun v9 => (bif decide (v8.fst ≤ v9.fst) then k0 41 else law50o0 N0 x k0 k1 n (IntKind.i64.wrap (i7 + 1)))) else none) else law50o0 N0 x k0 k1 n (IntKind.i64.wrap (i7 + 1)))))) else none) else k1)
theorem leq50o0 {β : Type} (N0 : Nat) (x : Sh.Ts [DotSh.sl]) (K : Exit → List AV → Heap → Option β) : ∀ (n : Nat) (i7 : Int), ln50o0 N0 n (t50o0 N0 x i7) (h50o0 N0 x i7) K = law50o0 N0 x (fun w10 => K (Exit.ret) (tx50o0o0 N0 x w10) (hx50o0o0 N0 x w10)) (K (Exit.exit 0) (tx50o0o1 N0 x) (hx50o0o1 N0 x)) n i7
  | 0, _ => rfl
  | n + 1, i7 => by
    have h : ln50o0 N0 (n + 1) (t50o0 N0 x i7) (h50o0 N0 x i7) K = (bif decide (i7 < (↑(List.length x.fst) : Int)) then (bif decide (0 ≤ i7) && decide (i7 < (↑(List.length x.fst) : Int)) then (Option.bind x.fst[i7.toNat]? fun v8 => (bif decide ((if v8.snd.fst > v8.fst then v8.snd.fst else v8.fst) > 4503599627370496) then K (Exit.ret) (tx50o0o0 N0 x 40) (hx50o0o0 N0 x 40) else (bif decide ((if v8.snd.fst < v8.fst then v8.snd.fst else v8.fst) < -4503599627370496) then K (Exit.ret) (tx50o0o0 N0 x 40) (hx50o0o0 N0 x 40) else (bif decide (i7 > 0) then (bif decide (0 ≤ IntKind.i64.wrap (i7 - 1)) && decide (IntKind.i64.wrap (i7 - 1) < (↑(List.length x.fst) : Int)) then (Option.bind (x.fst[(IntKind.i64.wrap (i7 - 1)).toNat]?) fun v9 => (bif decide (v8.fst ≤ v9.fst) then K (Exit.ret) (tx50o0o0 N0 x 41) (hx50o0o0 N0 x 41) else ln50o0 N0 n (t50o0 N0 x (IntKind.i64.wrap (i7 + 1))) (h50o0 N0 x (IntKind.i64.wrap (i7 + 1))) K)) else none) else ln50o0 N0 n (t50o0 N0 x (IntKind.i64.wrap (i7 + 1))) (h50o0 N0 x (IntKind.i64.wrap (i7 + 1))) K)))) else none) else K (Exit.exit 0) (tx50o0o1 N0 x) (hx50o0o1 N0 x)) := by kernel_rfl
    rw [h]
    simp only [decide_self, decide_true, Nat.zero_add, Bool.and_true, Bool.true_and, cond_true, law50o0, leq50o0 N0 x K n]
theorem rest50o0o0 (N0 : Nat) (x : Sh.Ts [DotSh.sl]) (w11 : Int) : rk50o0 N0 (Exit.ret) (tx50o0o0 N0 x w11) (hx50o0o0 N0 x w11) = some ((w11, ())) := by kernel_rfl
theorem rest50o0o1 (N0 : Nat) (x : Sh.Ts [DotSh.sl]) : rk50o0 N0 (Exit.exit 0) (tx50o0o1 N0 x) (hx50o0o1 N0 x) = some ((0, ())) := by kernel_rfl
noncomputable def law50 (N0 : Nat) (x : ((List DotT) × Unit)) : Option ((Int × Unit)) := (bif decide ((↑(List.length x.fst) : Int) < 2) then some ((42, ())) else (bif decide ((↑(List.length x.fst) : Int) > 32) then some ((42, ())) else (law50o0 N0 x (fun w11 => some ((w11, ()))) (some ((0, ()))) N0 0)))
theorem eq50 (N0 : Nat) (x : Sh.Ts [DotSh.sl]) : codeLaw Try.prog env50 200 (L50 N0) Try.f50 c50 [.sl (DotSh)] [.int .i64] x = law50 N0 x := by
  have h : codeLaw Try.prog env50 200 (L50 N0) Try.f50 c50 [.sl (DotSh)] [.int .i64] x = (bif decide ((↑(List.length x.fst) : Int) < 2) then some ((42, ())) else (bif decide ((↑(List.length x.fst) : Int) > 32) then some ((42, ())) else (ln50o0 N0 N0 (t50o0 N0 x 0) (h50o0 N0 x 0) (rk50o0 N0)))) := by kernel_rfl
  rw [h]
  unfold law50
  simp only [decide_self, decide_true, Nat.zero_add, Bool.and_true, Bool.true_and, cond_true, leq50o0, rest50o0o0, rest50o0o1]
noncomputable def fn50 (x : ((List DotT) × Unit)) : Option ((Int × Unit)) := law50 (10 ^ 30) x
theorem reads50 : Reads Try.prog 50 [.sl (DotSh)] [.int .i64] fn50 := (Reads.of_code mixed (fn := Try.f50) (c := c50) Try.func50 (by kernel_rfl) (by kernel_rfl) env50 200 (L50_fit _) (by kernel_rfl)).to (eq50 _)
noncomputable def s50 : Summ Try.prog := reads50.summ
/- chicane/car.alike -/
noncomputable def c33 : Code := (Try.f33.body.getD .skip)
noncomputable def env33 : Env Try.prog := []
noncomputable def L33 : Loops Try.prog := []
theorem L33_fit : (L33).fit c33 := Loops.fit_nil
noncomputable def law33 (x : (DotT × Unit)) : Option ((Bool × Unit)) := (bif decide ((if x.fst.snd.fst < x.fst.fst then x.fst.snd.fst else x.fst.fst) < 0) then some ((!decide ((if x.fst.snd.fst > x.fst.fst then x.fst.snd.fst else x.fst.fst) > 0), ())) else some ((!false, ())))
theorem eq33 (x : Sh.Ts [DotSh]) : codeLaw Try.prog env33 200 (L33) Try.f33 c33 [DotSh] [.bool] x = law33 x := by kernel_rfl
noncomputable def fn33 (x : (DotT × Unit)) : Option ((Bool × Unit)) := law33 x
theorem reads33 : Reads Try.prog 33 [DotSh] [.bool] fn33 := (Reads.of_code mixed (fn := Try.f33) (c := c33) Try.func33 (by kernel_rfl) (by kernel_rfl) env33 200 (L33_fit) (by kernel_rfl)).to (eq33)
noncomputable def s33 : Summ Try.prog := reads33.summ
/- chicane/car.values -/
noncomputable def c32x33 : Code := (Try.f32.body.getD .skip)
noncomputable def env32x33 : Env Try.prog := [s50, s33]
noncomputable def b32x33_0 : Code := ((kid ((subAt c32x33 [0, 1, 0, 1, 1]).getD .skip) 0).getD .skip)
noncomputable def kx32x33_0 : Exit → List Nat | .ret => [8] | _ => []
noncomputable def Li32x33_0 (N0 : Nat) : Loops Try.prog := []
noncomputable def ls32x33_0 (N0 : Nat) : LSumm Try.prog := loopSumm mixed env32x33 200 (Li32x33_0 N0) b32x33_0 (Loops.fit_nil) [1, 2, 3, 17, 18, 19] kx32x33_0 (N0)
noncomputable def ln32x33_0 {β : Type} (N0 : Nat) (n : Nat) (t : List AV) (h : Heap) (K : Exit → List AV → Heap → Option β) : Option β := loopN Try.prog env32x33 (Sh.nes [.sl (DotSh), .int .i64, .int .i64] + Sh.nes [] + List.length (α := Sh) []) 200 (Li32x33_0 N0) b32x33_0 [1, 2, 3, 17, 18, 19] kx32x33_0 n t h K
noncomputable def L32x33 (N0 : Nat) : Loops Try.prog := [([0, 1, 0, 1, 1], ls32x33_0 N0)]
theorem L32x33_fit (N0 : Nat) : (L32x33 N0).fit c32x33 := Loops.fit_cons (by kernel_rfl) (Loops.fit_nil)
noncomputable def K32x33 : Exit → List AV → Heap → Option (Sh.Ts [.int .i64]) := fun e t h => outK (P := Try.prog) Try.f32 [.int .i64] e t h
noncomputable def rk32x33_0 (N0 : Nat) : Exit → List AV → Heap → Option (Sh.Ts [.int .i64]) := (blkK 0 (seqK Try.prog env32x33 (Sh.nes [.sl (DotSh), .int .i64, .int .i64] + Sh.nes [] + List.length (α := Sh) []) 197 (L32x33 N0) [1, 1, 1] ((subAt c32x33 [1, 1, 1]).getD .skip) K32x33))
noncomputable def t32x33_0 (N0 : Nat) (x : Sh.Ts [DotSh.sl, Sh.int IntKind.i64, Sh.int IntKind.i64]) (i9 : Int) : List AV := [AV.any, AV.val (Value.int IntKind.i64 x.snd.fst), AV.val (Value.int IntKind.i64 x.snd.snd.fst), AV.fn (Fn.func 33) [] [], AV.any, AV.any, AV.any, AV.any, AV.any, AV.any, AV.any, AV.any, AV.any, AV.any, AV.any, AV.any, AV.any, AV.slc 0 0 (List.length x.fst) Cap.low, AV.val (Value.int IntKind.i64 (↑(List.length x.fst) : Int)), AV.val (Value.int IntKind.i64 i9), AV.any, AV.any, AV.any, AV.any, AV.any, AV.any, AV.any, AV.any, AV.any, AV.any, AV.any, AV.any, AV.any, AV.any, AV.any, AV.any, AV.any, AV.any, AV.any, AV.any]
noncomputable def h32x33_0 (N0 : Nat) (x : Sh.Ts [DotSh.sl, Sh.int IntKind.i64, Sh.int IntKind.i64]) (i9 : Int) : Heap := [Ent.live (Blk.mk (Cells.arr (Sh.st [Sh.int IntKind.i64, Sh.int IntKind.i64]) x.fst) false none)]
noncomputable def tx32x33_0_0 (N0 : Nat) (x : Sh.Ts [DotSh.sl, Sh.int IntKind.i64, Sh.int IntKind.i64]) : List AV := [AV.any, AV.any, AV.any, AV.any, AV.any, AV.any, AV.any, AV.any, AV.val (Value.int IntKind.i64 40), AV.any, AV.any, AV.any, AV.any, AV.any, AV.any, AV.any, AV.any, AV.any, AV.any, AV.any, AV.any, AV.any, AV.any, AV.any, AV.any, AV.any, AV.any, AV.any, AV.any, AV.any, AV.any, AV.any, AV.any, AV.any, AV.any, AV.any, AV.any, AV.any, AV.any, AV.any]
noncomputable def hx32x33_0_0 (N0 : Nat) (x : Sh.Ts [DotSh.sl, Sh.int IntKind.i64, Sh.int IntKind.i64]) : Heap := [Ent.live (Blk.mk (Cells.arr (Sh.st [Sh.int IntKind.i64, Sh.int IntKind.i64]) x.fst) false none)]
noncomputable def tx32x33_0_1 (N0 : Nat) (x : Sh.Ts [DotSh.sl, Sh.int IntKind.i64, Sh.int IntKind.i64]) : List AV := [AV.any, AV.any, AV.any, AV.any, AV.any, AV.any, AV.any, AV.any, AV.any, AV.any, AV.any, AV.any, AV.any, AV.any, AV.any, AV.any, AV.any, AV.any, AV.any, AV.any, AV.any, AV.any, AV.any, AV.any, AV.any, AV.any, AV.any, AV.any, AV.any, AV.any, AV.any, AV.any, AV.any, AV.any, AV.any, AV.any, AV.any, AV.any, AV.any, AV.any]
noncomputable def hx32x33_0_1 (N0 : Nat) (x : Sh.Ts [DotSh.sl, Sh.int IntKind.i64, Sh.int IntKind.i64]) : Heap := [Ent.live (Blk.mk (Cells.arr (Sh.st [Sh.int IntKind.i64, Sh.int IntKind.i64]) x.fst) false none)]
noncomputable def law32x33_0 {β : Type} (N0 : Nat) (x : ((List DotT) × Int × Int × Unit)) (k0 : Option β) (k1 : Option β) : Nat → Int → Option β
  | 0, _ => none
  | n + 1, i9 => (bif decide (i9 < (↑(List.length x.fst) : Int)) then (bif decide (0 ≤ i9) && decide (i9 < (↑(List.length x.fst) : Int)) then (Option.bind x.fst[i9.toNat]? fun v10 => (bif decide (v10.snd.fst < x.snd.fst) then k0 else (bif decide (v10.snd.fst > x.snd.snd.fst) then k0 else (Option.bind (fn33 (v10, ())) fun v11 => (bif !v11.fst then k0 else law32x33_0 N0 x k0 k1 n (IntKind.i64.wrap (i9 + 1))))))) else none) else k1)
theorem leq32x33_0 {β : Type} (N0 : Nat) (x : Sh.Ts [DotSh.sl, Sh.int IntKind.i64, Sh.int IntKind.i64]) (K : Exit → List AV → Heap → Option β) : ∀ (n : Nat) (i9 : Int), ln32x33_0 N0 n (t32x33_0 N0 x i9) (h32x33_0 N0 x i9) K = law32x33_0 N0 x (K (Exit.ret) (tx32x33_0_0 N0 x) (hx32x33_0_0 N0 x)) (K (Exit.exit 0) (tx32x33_0_1 N0 x) (hx32x33_0_1 N0 x)) n i9
  | 0, _ => rfl
  | n + 1, i9 => by
    have h : ln32x33_0 N0 (n + 1) (t32x33_0 N0 x i9) (h32x33_0 N0 x i9) K = (bif decide (i9 < (↑(List.length x.fst) : Int)) then (bif decide (0 ≤ i9) && decide (i9 < (↑(List.length x.fst) : Int)) then (Option.bind x.fst[i9.toNat]? fun v10 => (bif decide (v10.snd.fst < x.snd.fst) then K (Exit.ret) (tx32x33_0_0 N0 x) (hx32x33_0_0 N0 x) else (bif decide (v10.snd.fst > x.snd.snd.fst) then K (Exit.ret) (tx32x33_0_0 N0 x) (hx32x33_0_0 N0 x) else (Option.bind (fn33 (v10, ())) fun v11 => (bif !v11.fst then K (Exit.ret) (tx32x33_0_0 N0 x) (hx32x33_0_0 N0 x) else ln32x33_0 N0 n (t32x33_0 N0 x (IntKind.i64.wrap (i9 + 1))) (h32x33_0 N0 x (IntKind.i64.wrap (i9 + 1))) K))))) else none) else K (Exit.exit 0) (tx32x33_0_1 N0 x) (hx32x33_0_1 N0 x)) := by kernel_rfl
    rw [h]
    simp only [decide_self, decide_true, Nat.zero_add, Bool.and_true, Bool.true_and, cond_true, law32x33_0, leq32x33_0 N0 x K n]
theorem rest32x33_0_0 (N0 : Nat) (x : Sh.Ts [DotSh.sl, Sh.int IntKind.i64, Sh.int IntKind.i64]) : rk32x33_0 N0 (Exit.ret) (tx32x33_0_0 N0 x) (hx32x33_0_0 N0 x) = some ((40, ())) := by kernel_rfl
theorem rest32x33_0_1 (N0 : Nat) (x : Sh.Ts [DotSh.sl, Sh.int IntKind.i64, Sh.int IntKind.i64]) : rk32x33_0 N0 (Exit.exit 0) (tx32x33_0_1 N0 x) (hx32x33_0_1 N0 x) = some ((0, ())) := by kernel_rfl
noncomputable def law32x33 (N0 : Nat) (x : ((List DotT) × Int × Int × Unit)) (xs : (Unit)) : Option ((Int × Unit)) := (Option.bind (fn50 (x.fst, ())) fun v0 => (bif v0.fst != 0 then some ((v0.fst, ())) else (law32x33_0 N0 x (some ((40, ()))) (some ((0, ()))) N0 0)))
theorem eq32x33 (N0 : Nat) (x : Sh.Ts [DotSh.sl, Sh.int IntKind.i64, Sh.int IntKind.i64]) (xs : Sh.Ts []) : codeLawC Try.prog env32x33 200 (L32x33 N0) Try.f32 c32x33 [.sl (DotSh), .int .i64, .int .i64] 33 [] [.int .i64] x xs = law32x33 N0 x xs := by
  have h : codeLawC Try.prog env32x33 200 (L32x33 N0) Try.f32 c32x33 [.sl (DotSh), .int .i64, .int .i64] 33 [] [.int .i64] x xs = (bif decide (List.length x.fst = List.length x.fst) && true then (Option.bind (fn50 (x.fst, ())) fun v0 => (bif v0.fst != 0 then some ((v0.fst, ())) else (ln32x33_0 N0 N0 (t32x33_0 N0 x 0) (h32x33_0 N0 x 0) (rk32x33_0 N0)))) else none) := by kernel_rfl
  rw [h]
  unfold law32x33
  simp only [decide_self, decide_true, Nat.zero_add, Bool.and_true, Bool.true_and, cond_true, leq32x33_0, rest32x33_0_0, rest32x33_0_1]
noncomputable def fn32x33 (x : ((List DotT) × Int × Int × Unit)) (xs : (Unit)) : Option ((Int × Unit)) := law32x33 (10 ^ 30) x xs
theorem reads32x33 : ReadsC Try.prog 32 [.sl (DotSh), .int .i64, .int .i64] 33 [] [.int .i64] fn32x33 := (ReadsC.of_code mixed (fn := Try.f32) (c := c32x33) Try.func32 (by kernel_rfl) (by kernel_rfl) env32x33 200 (L32x33_fit _) (by kernel_rfl)).to (eq32x33 _)
noncomputable def s32x33 : Summ Try.prog := reads32x33.summ (by kernel_rfl)
/- chicane/car.free -/
noncomputable def c35 : Code := (Try.f35.body.getD .skip)
noncomputable def env35 : Env Try.prog := []
noncomputable def L35 : Loops Try.prog := []
theorem L35_fit : (L35).fit c35 := Loops.fit_nil
noncomputable def law35 (x : (DotT × Unit)) : Option ((Bool × Unit)) := some ((true, ()))
theorem eq35 (x : Sh.Ts [DotSh]) : codeLaw Try.prog env35 200 (L35) Try.f35 c35 [DotSh] [.bool] x = law35 x := by kernel_rfl
noncomputable def fn35 (x : (DotT × Unit)) : Option ((Bool × Unit)) := law35 x
theorem reads35 : Reads Try.prog 35 [DotSh] [.bool] fn35 := (Reads.of_code mixed (fn := Try.f35) (c := c35) Try.func35 (by kernel_rfl) (by kernel_rfl) env35 200 (L35_fit) (by kernel_rfl)).to (eq35)
noncomputable def s35 : Summ Try.prog := reads35.summ
/- chicane/car.values -/
noncomputable def c32x35 : Code := (Try.f32.body.getD .skip)
noncomputable def env32x35 : Env Try.prog := [s50, s35]
noncomputable def b32x35_0 : Code := ((kid ((subAt c32x35 [0, 1, 0, 1, 1]).getD .skip) 0).getD .skip)
noncomputable def kx32x35_0 : Exit → List Nat | .ret => [8] | _ => []
noncomputable def Li32x35_0 (N0 : Nat) : Loops Try.prog := []
noncomputable def ls32x35_0 (N0 : Nat) : LSumm Try.prog := loopSumm mixed env32x35 200 (Li32x35_0 N0) b32x35_0 (Loops.fit_nil) [1, 2, 3, 17, 18, 19] kx32x35_0 (N0)
noncomputable def ln32x35_0 {β : Type} (N0 : Nat) (n : Nat) (t : List AV) (h : Heap) (K : Exit → List AV → Heap → Option β) : Option β := loopN Try.prog env32x35 (Sh.nes [.sl (DotSh), .int .i64, .int .i64] + Sh.nes [] + List.length (α := Sh) []) 200 (Li32x35_0 N0) b32x35_0 [1, 2, 3, 17, 18, 19] kx32x35_0 n t h K
noncomputable def L32x35 (N0 : Nat) : Loops Try.prog := [([0, 1, 0, 1, 1], ls32x35_0 N0)]
theorem L32x35_fit (N0 : Nat) : (L32x35 N0).fit c32x35 := Loops.fit_cons (by kernel_rfl) (Loops.fit_nil)
noncomputable def K32x35 : Exit → List AV → Heap → Option (Sh.Ts [.int .i64]) := fun e t h => outK (P := Try.prog) Try.f32 [.int .i64] e t h
noncomputable def rk32x35_0 (N0 : Nat) : Exit → List AV → Heap → Option (Sh.Ts [.int .i64]) := (blkK 0 (seqK Try.prog env32x35 (Sh.nes [.sl (DotSh), .int .i64, .int .i64] + Sh.nes [] + List.length (α := Sh) []) 197 (L32x35 N0) [1, 1, 1] ((subAt c32x35 [1, 1, 1]).getD .skip) K32x35))
noncomputable def t32x35_0 (N0 : Nat) (x : Sh.Ts [DotSh.sl, Sh.int IntKind.i64, Sh.int IntKind.i64]) (i8 : Int) : List AV := [AV.any, AV.val (Value.int IntKind.i64 x.snd.fst), AV.val (Value.int IntKind.i64 x.snd.snd.fst), AV.fn (Fn.func 35) [] [], AV.any, AV.any, AV.any, AV.any, AV.any, AV.any, AV.any, AV.any, AV.any, AV.any, AV.any, AV.any, AV.any, AV.slc 0 0 (List.length x.fst) Cap.low, AV.val (Value.int IntKind.i64 (↑(List.length x.fst) : Int)), AV.val (Value.int IntKind.i64 i8), AV.any, AV.any, AV.any, AV.any, AV.any, AV.any, AV.any, AV.any, AV.any, AV.any, AV.any, AV.any, AV.any, AV.any, AV.any, AV.any, AV.any, AV.any, AV.any, AV.any]
noncomputable def h32x35_0 (N0 : Nat) (x : Sh.Ts [DotSh.sl, Sh.int IntKind.i64, Sh.int IntKind.i64]) (i8 : Int) : Heap := [Ent.live (Blk.mk (Cells.arr (Sh.st [Sh.int IntKind.i64, Sh.int IntKind.i64]) x.fst) false none)]
noncomputable def tx32x35_0_0 (N0 : Nat) (x : Sh.Ts [DotSh.sl, Sh.int IntKind.i64, Sh.int IntKind.i64]) : List AV := [AV.any, AV.any, AV.any, AV.any, AV.any, AV.any, AV.any, AV.any, AV.val (Value.int IntKind.i64 40), AV.any, AV.any, AV.any, AV.any, AV.any, AV.any, AV.any, AV.any, AV.any, AV.any, AV.any, AV.any, AV.any, AV.any, AV.any, AV.any, AV.any, AV.any, AV.any, AV.any, AV.any, AV.any, AV.any, AV.any, AV.any, AV.any, AV.any, AV.any, AV.any, AV.any, AV.any]
noncomputable def hx32x35_0_0 (N0 : Nat) (x : Sh.Ts [DotSh.sl, Sh.int IntKind.i64, Sh.int IntKind.i64]) : Heap := [Ent.live (Blk.mk (Cells.arr (Sh.st [Sh.int IntKind.i64, Sh.int IntKind.i64]) x.fst) false none)]
noncomputable def tx32x35_0_1 (N0 : Nat) (x : Sh.Ts [DotSh.sl, Sh.int IntKind.i64, Sh.int IntKind.i64]) : List AV := [AV.any, AV.any, AV.any, AV.any, AV.any, AV.any, AV.any, AV.any, AV.any, AV.any, AV.any, AV.any, AV.any, AV.any, AV.any, AV.any, AV.any, AV.any, AV.any, AV.any, AV.any, AV.any, AV.any, AV.any, AV.any, AV.any, AV.any, AV.any, AV.any, AV.any, AV.any, AV.any, AV.any, AV.any, AV.any, AV.any, AV.any, AV.any, AV.any, AV.any]
noncomputable def hx32x35_0_1 (N0 : Nat) (x : Sh.Ts [DotSh.sl, Sh.int IntKind.i64, Sh.int IntKind.i64]) : Heap := [Ent.live (Blk.mk (Cells.arr (Sh.st [Sh.int IntKind.i64, Sh.int IntKind.i64]) x.fst) false none)]
noncomputable def law32x35_0 {β : Type} (N0 : Nat) (x : ((List DotT) × Int × Int × Unit)) (k0 : Option β) (k1 : Option β) : Nat → Int → Option β
  | 0, _ => none
  | n + 1, i8 => (bif decide (i8 < (↑(List.length x.fst) : Int)) then (bif decide (0 ≤ i8) && decide (i8 < (↑(List.length x.fst) : Int)) then (Option.bind x.fst[i8.toNat]? fun v9 => (bif decide (v9.snd.fst < x.snd.fst) then k0 else (bif decide (v9.snd.fst > x.snd.snd.fst) then k0 else law32x35_0 N0 x k0 k1 n (IntKind.i64.wrap (i8 + 1))))) else none) else k1)
theorem leq32x35_0 {β : Type} (N0 : Nat) (x : Sh.Ts [DotSh.sl, Sh.int IntKind.i64, Sh.int IntKind.i64]) (K : Exit → List AV → Heap → Option β) : ∀ (n : Nat) (i8 : Int), ln32x35_0 N0 n (t32x35_0 N0 x i8) (h32x35_0 N0 x i8) K = law32x35_0 N0 x (K (Exit.ret) (tx32x35_0_0 N0 x) (hx32x35_0_0 N0 x)) (K (Exit.exit 0) (tx32x35_0_1 N0 x) (hx32x35_0_1 N0 x)) n i8
  | 0, _ => rfl
  | n + 1, i8 => by
    have h : ln32x35_0 N0 (n + 1) (t32x35_0 N0 x i8) (h32x35_0 N0 x i8) K = (bif decide (i8 < (↑(List.length x.fst) : Int)) then (bif decide (0 ≤ i8) && decide (i8 < (↑(List.length x.fst) : Int)) then (Option.bind x.fst[i8.toNat]? fun v9 => (bif decide (v9.snd.fst < x.snd.fst) then K (Exit.ret) (tx32x35_0_0 N0 x) (hx32x35_0_0 N0 x) else (bif decide (v9.snd.fst > x.snd.snd.fst) then K (Exit.ret) (tx32x35_0_0 N0 x) (hx32x35_0_0 N0 x) else ln32x35_0 N0 n (t32x35_0 N0 x (IntKind.i64.wrap (i8 + 1))) (h32x35_0 N0 x (IntKind.i64.wrap (i8 + 1))) K))) else none) else K (Exit.exit 0) (tx32x35_0_1 N0 x) (hx32x35_0_1 N0 x)) := by kernel_rfl
    rw [h]
    simp only [decide_self, decide_true, Nat.zero_add, Bool.and_true, Bool.true_and, cond_true, law32x35_0, leq32x35_0 N0 x K n]
theorem rest32x35_0_0 (N0 : Nat) (x : Sh.Ts [DotSh.sl, Sh.int IntKind.i64, Sh.int IntKind.i64]) : rk32x35_0 N0 (Exit.ret) (tx32x35_0_0 N0 x) (hx32x35_0_0 N0 x) = some ((40, ())) := by kernel_rfl
theorem rest32x35_0_1 (N0 : Nat) (x : Sh.Ts [DotSh.sl, Sh.int IntKind.i64, Sh.int IntKind.i64]) : rk32x35_0 N0 (Exit.exit 0) (tx32x35_0_1 N0 x) (hx32x35_0_1 N0 x) = some ((0, ())) := by kernel_rfl
noncomputable def law32x35 (N0 : Nat) (x : ((List DotT) × Int × Int × Unit)) (xs : (Unit)) : Option ((Int × Unit)) := (Option.bind (fn50 (x.fst, ())) fun v0 => (bif v0.fst != 0 then some ((v0.fst, ())) else (law32x35_0 N0 x (some ((40, ()))) (some ((0, ()))) N0 0)))
theorem eq32x35 (N0 : Nat) (x : Sh.Ts [DotSh.sl, Sh.int IntKind.i64, Sh.int IntKind.i64]) (xs : Sh.Ts []) : codeLawC Try.prog env32x35 200 (L32x35 N0) Try.f32 c32x35 [.sl (DotSh), .int .i64, .int .i64] 35 [] [.int .i64] x xs = law32x35 N0 x xs := by
  have h : codeLawC Try.prog env32x35 200 (L32x35 N0) Try.f32 c32x35 [.sl (DotSh), .int .i64, .int .i64] 35 [] [.int .i64] x xs = (bif decide (List.length x.fst = List.length x.fst) && true then (Option.bind (fn50 (x.fst, ())) fun v0 => (bif v0.fst != 0 then some ((v0.fst, ())) else (ln32x35_0 N0 N0 (t32x35_0 N0 x 0) (h32x35_0 N0 x 0) (rk32x35_0 N0)))) else none) := by kernel_rfl
  rw [h]
  unfold law32x35
  simp only [decide_self, decide_true, Nat.zero_add, Bool.and_true, Bool.true_and, cond_true, leq32x35_0, rest32x35_0_0, rest32x35_0_1]
noncomputable def fn32x35 (x : ((List DotT) × Int × Int × Unit)) (xs : (Unit)) : Option ((Int × Unit)) := law32x35 (10 ^ 30) x xs
theorem reads32x35 : ReadsC Try.prog 32 [.sl (DotSh), .int .i64, .int .i64] 35 [] [.int .i64] fn32x35 := (ReadsC.of_code mixed (fn := Try.f32) (c := c32x35) Try.func32 (by kernel_rfl) (by kernel_rfl) env32x35 200 (L32x35_fit _) (by kernel_rfl)).to (eq32x35 _)
noncomputable def s32x35 : Summ Try.prog := reads32x35.summ (by kernel_rfl)
noncomputable def s32 : Summ Try.prog := (Summ.choose (lastFn 33) s32x33 s32x35 rfl)
/- chicane/pane.far -/
noncomputable def c63 : Code := (Try.f63.body.getD .skip)
noncomputable def env63 : Env Try.prog := []
noncomputable def L63 : Loops Try.prog := []
theorem L63_fit : (L63).fit c63 := Loops.fit_nil
noncomputable def law63 (x : (Int × Unit)) : Option ((Bool × Unit)) := (bif decide (x.fst > 4503599627370496) then some ((true, ())) else some ((decide (x.fst < -4503599627370496), ())))
theorem eq63 (x : Sh.Ts [Sh.int IntKind.i64]) : codeLaw Try.prog env63 200 (L63) Try.f63 c63 [.int .i64] [.bool] x = law63 x := by kernel_rfl
noncomputable def fn63 (x : (Int × Unit)) : Option ((Bool × Unit)) := law63 x
theorem reads63 : Reads Try.prog 63 [.int .i64] [.bool] fn63 := (Reads.of_code mixed (fn := Try.f63) (c := c63) Try.func63 (by kernel_rfl) (by kernel_rfl) env63 200 (L63_fit) (by kernel_rfl)).to (eq63)
noncomputable def s63 : Summ Try.prog := reads63.summ
/- slices.IndexFunc[[]chicane/api.Fx,chicane/api.Fx] -/
noncomputable def c71x63 : Code := (Try.f71.body.getD .skip)
noncomputable def env71x63 : Env Try.prog := [s63]
noncomputable def b71x63_0 : Code := ((kid ((subAt c71x63 [0, 1, 0, 1]).getD .skip) 0).getD .skip)
noncomputable def kx71x63_0 : Exit → List Nat | .ret => [4] | _ => []
noncomputable def Li71x63_0 (N0 : Nat) : Loops Try.prog := []
noncomputable def ls71x63_0 (N0 : Nat) : LSumm Try.prog := loopSumm mixed env71x63 200 (Li71x63_0 N0) b71x63_0 (Loops.fit_nil) [0, 1, 7, 8] kx71x63_0 (N0)
noncomputable def ln71x63_0 {β : Type} (N0 : Nat) (n : Nat) (t : List AV) (h : Heap) (K : Exit → List AV → Heap → Option β) : Option β := loopN Try.prog env71x63 (Sh.nes [.sl (.int .i64)] + Sh.nes [] + List.length (α := Sh) []) 200 (Li71x63_0 N0) b71x63_0 [0, 1, 7, 8] kx71x63_0 n t h K
noncomputable def L71x63 (N0 : Nat) : Loops Try.prog := [([0, 1, 0, 1], ls71x63_0 N0)]
theorem L71x63_fit (N0 : Nat) : (L71x63 N0).fit c71x63 := Loops.fit_cons (by kernel_rfl) (Loops.fit_nil)
noncomputable def K71x63 : Exit → List AV → Heap → Option (Sh.Ts [.int .i64]) := fun e t h => outK (P := Try.prog) Try.f71 [.int .i64] e t h
noncomputable def rk71x63_0 (N0 : Nat) : Exit → List AV → Heap → Option (Sh.Ts [.int .i64]) := (blkK 0 (seqK Try.prog env71x63 (Sh.nes [.sl (.int .i64)] + Sh.nes [] + List.length (α := Sh) []) 198 (L71x63 N0) [1, 1] ((subAt c71x63 [1, 1]).getD .skip) K71x63))
noncomputable def t71x63_0 (N0 : Nat) (x : Sh.Ts [(Sh.int IntKind.i64).sl]) (i6 : Int) : List AV := [AV.slc 0 0 (List.length x.fst) Cap.low, AV.fn (Fn.func 63) [] [], AV.any, AV.any, AV.any, AV.any, AV.any, AV.val (Value.int IntKind.i64 (↑(List.length x.fst) : Int)), AV.val (Value.int IntKind.i64 i6), AV.any, AV.any, AV.any, AV.any, AV.any, AV.any, AV.any, AV.any, AV.any, AV.any]
noncomputable def h71x63_0 (N0 : Nat) (x : Sh.Ts [(Sh.int IntKind.i64).sl]) (i6 : Int) : Heap := [Ent.live (Blk.mk (Cells.arr (Sh.int IntKind.i64) x.fst) false none)]
noncomputable def tx71x63_0_0 (N0 : Nat) (x : Sh.Ts [(Sh.int IntKind.i64).sl]) (w9 : Int) : List AV := [AV.any, AV.any, AV.any, AV.any, AV.val (Value.int IntKind.i64 w9), AV.any, AV.any, AV.any, AV.any, AV.any, AV.any, AV.any, AV.any, AV.any, AV.any, AV.any, AV.any, AV.any, AV.any]
noncomputable def hx71x63_0_0 (N0 : Nat) (x : Sh.Ts [(Sh.int IntKind.i64).sl]) (w9 : Int) : Heap := [Ent.live (Blk.mk (Cells.arr (Sh.int IntKind.i64) x.fst) false none)]
noncomputable def tx71x63_0_1 (N0 : Nat) (x : Sh.Ts [(Sh.int IntKind.i64).sl]) : List AV := [AV.any, AV.any, AV.any, AV.any, AV.any, AV.any, AV.any, AV.any, AV.any, AV.any, AV.any, AV.any, AV.any, AV.any, AV.any, AV.any, AV.any, AV.any, AV.any]
noncomputable def hx71x63_0_1 (N0 : Nat) (x : Sh.Ts [(Sh.int IntKind.i64).sl]) : Heap := [Ent.live (Blk.mk (Cells.arr (Sh.int IntKind.i64) x.fst) false none)]
noncomputable def law71x63_0 {β : Type} (N0 : Nat) (x : ((List Int) × Unit)) (k0 : Int → Option β) (k1 : Option β) : Nat → Int → Option β
  | 0, _ => none
  | n + 1, i6 => (bif decide (i6 < (↑(List.length x.fst) : Int)) then (bif decide (0 ≤ i6) && decide (i6 < (↑(List.length x.fst) : Int)) then (Option.bind x.fst[i6.toNat]? fun v7 => (Option.bind (fn63 (v7, ())) fun v8 => (bif v8.fst then k0 i6 else law71x63_0 N0 x k0 k1 n (IntKind.i64.wrap (i6 + 1))))) else none) else k1)
theorem leq71x63_0 {β : Type} (N0 : Nat) (x : Sh.Ts [(Sh.int IntKind.i64).sl]) (K : Exit → List AV → Heap → Option β) : ∀ (n : Nat) (i6 : Int), ln71x63_0 N0 n (t71x63_0 N0 x i6) (h71x63_0 N0 x i6) K = law71x63_0 N0 x (fun w9 => K (Exit.ret) (tx71x63_0_0 N0 x w9) (hx71x63_0_0 N0 x w9)) (K (Exit.exit 0) (tx71x63_0_1 N0 x) (hx71x63_0_1 N0 x)) n i6
  | 0, _ => rfl
  | n + 1, i6 => by
    have h : ln71x63_0 N0 (n + 1) (t71x63_0 N0 x i6) (h71x63_0 N0 x i6) K = (bif decide (i6 < (↑(List.length x.fst) : Int)) then (bif decide (0 ≤ i6) && decide (i6 < (↑(List.length x.fst) : Int)) then (Option.bind (x.fst[0 + i6.toNat]?) fun v7 => (Option.bind (fn63 (v7, ())) fun v8 => (bif v8.fst then K (Exit.ret) (tx71x63_0_0 N0 x i6) (hx71x63_0_0 N0 x i6) else ln71x63_0 N0 n (t71x63_0 N0 x (IntKind.i64.wrap (i6 + 1))) (h71x63_0 N0 x (IntKind.i64.wrap (i6 + 1))) K))) else none) else K (Exit.exit 0) (tx71x63_0_1 N0 x) (hx71x63_0_1 N0 x)) := by kernel_rfl
    rw [h]
    simp only [decide_self, decide_true, Nat.zero_add, Bool.and_true, Bool.true_and, cond_true, law71x63_0, leq71x63_0 N0 x K n]
theorem rest71x63_0_0 (N0 : Nat) (x : Sh.Ts [(Sh.int IntKind.i64).sl]) (w10 : Int) : rk71x63_0 N0 (Exit.ret) (tx71x63_0_0 N0 x w10) (hx71x63_0_0 N0 x w10) = some ((w10, ())) := by kernel_rfl
theorem rest71x63_0_1 (N0 : Nat) (x : Sh.Ts [(Sh.int IntKind.i64).sl]) : rk71x63_0 N0 (Exit.exit 0) (tx71x63_0_1 N0 x) (hx71x63_0_1 N0 x) = some ((-1, ())) := by kernel_rfl
noncomputable def law71x63 (N0 : Nat) (x : ((List Int) × Unit)) (xs : (Unit)) : Option ((Int × Unit)) := (law71x63_0 N0 x (fun w10 => some ((w10, ()))) (some ((-1, ()))) N0 0)
theorem eq71x63 (N0 : Nat) (x : Sh.Ts [(Sh.int IntKind.i64).sl]) (xs : Sh.Ts []) : codeLawC Try.prog env71x63 200 (L71x63 N0) Try.f71 c71x63 [.sl (.int .i64)] 63 [] [.int .i64] x xs = law71x63 N0 x xs := by
  have h : codeLawC Try.prog env71x63 200 (L71x63 N0) Try.f71 c71x63 [.sl (.int .i64)] 63 [] [.int .i64] x xs = (ln71x63_0 N0 N0 (t71x63_0 N0 x 0) (h71x63_0 N0 x 0) (rk71x63_0 N0)) := by kernel_rfl
  rw [h]
  unfold law71x63
  simp only [decide_self, decide_true, Nat.zero_add, Bool.and_true, Bool.true_and, cond_true, leq71x63_0, rest71x63_0_0, rest71x63_0_1]
noncomputable def fn71x63 (x : ((List Int) × Unit)) (xs : (Unit)) : Option ((Int × Unit)) := law71x63 (10 ^ 30) x xs
theorem reads71x63 : ReadsC Try.prog 71 [.sl (.int .i64)] 63 [] [.int .i64] fn71x63 := (ReadsC.of_code mixed (fn := Try.f71) (c := c71x63) Try.func71 (by kernel_rfl) (by kernel_rfl) env71x63 200 (L71x63_fit _) (by kernel_rfl)).to (eq71x63 _)
noncomputable def s71x63 : Summ Try.prog := reads71x63.summ (by kernel_rfl)
noncomputable def s71 : Summ Try.prog := s71x63
/- slices.ContainsFunc[[]chicane/api.Fx,chicane/api.Fx] -/
noncomputable def c62x63 : Code := (Try.f62.body.getD .skip)
noncomputable def env62x63 : Env Try.prog := [s71]
noncomputable def L62x63 : Loops Try.prog := []
theorem L62x63_fit : (L62x63).fit c62x63 := Loops.fit_nil
noncomputable def law62x63 (x : ((List Int) × Unit)) (xs : (Unit)) : Option ((Bool × Unit)) := (Option.bind (fn71x63 x ()) fun v0 => some ((decide (v0.fst ≥ 0), ())))
theorem eq62x63 (x : Sh.Ts [(Sh.int IntKind.i64).sl]) (xs : Sh.Ts []) : codeLawC Try.prog env62x63 200 (L62x63) Try.f62 c62x63 [.sl (.int .i64)] 63 [] [.bool] x xs = law62x63 x xs := by
  have h : codeLawC Try.prog env62x63 200 (L62x63) Try.f62 c62x63 [.sl (.int .i64)] 63 [] [.bool] x xs = (bif decide (List.length x.fst = List.length x.fst) && true && true then (Option.bind (fn71x63 x ()) fun v0 => some ((decide (v0.fst ≥ 0), ()))) else none) := by kernel_rfl
  rw [h]
  unfold law62x63
  simp only [decide_self, decide_true, Nat.zero_add, Bool.and_true, Bool.true_and, cond_true]
noncomputable def fn62x63 (x : ((List Int) × Unit)) (xs : (Unit)) : Option ((Bool × Unit)) := law62x63 x xs
theorem reads62x63 : ReadsC Try.prog 62 [.sl (.int .i64)] 63 [] [.bool] fn62x63 := (ReadsC.of_code mixed (fn := Try.f62) (c := c62x63) Try.func62 (by kernel_rfl) (by kernel_rfl) env62x63 200 (L62x63_fit) (by kernel_rfl)).to (eq62x63)
noncomputable def s62x63 : Summ Try.prog := reads62x63.summ (by kernel_rfl)
noncomputable def s62 : Summ Try.prog := s62x63
/- chicane/pane.Right$1 -/
noncomputable def c61 : Code := (Try.f61.body.getD .skip)
noncomputable def env61 : Env Try.prog := [s62, s63]
noncomputable def L61 : Loops Try.prog := []
theorem L61_fit : (L61).fit c61 := Loops.fit_nil
noncomputable def law61 (x : ((List Int) × Unit)) : Option ((Bool × Unit)) := (Option.bind (fn62x63 x ()) fun v0 => some ((v0.fst, ())))
theorem eq61 (x : Sh.Ts [(Sh.int IntKind.i64).sl]) : codeLaw Try.prog env61 200 (L61) Try.f61 c61 [.sl (.int .i64)] [.bool] x = law61 x := by
  have h : codeLaw Try.prog env61 200 (L61) Try.f61 c61 [.sl (.int .i64)] [.bool] x = (bif decide (List.length x.fst = List.length x.fst) && true && true then (Option.bind (fn62x63 x ()) fun v0 => some ((v0.fst, ()))) else none) := by kernel_rfl
  rw [h]
  unfold law61
  simp only [decide_self, decide_true, Nat.zero_add, Bool.and_true, Bool.true_and, cond_true]
noncomputable def fn61 (x : ((List Int) × Unit)) : Option ((Bool × Unit)) := law61 x
theorem reads61 : Reads Try.prog 61 [.sl (.int .i64)] [.bool] fn61 := (Reads.of_code mixed (fn := Try.f61) (c := c61) Try.func61 (by kernel_rfl) (by kernel_rfl) env61 200 (L61_fit) (by kernel_rfl)).to (eq61)
noncomputable def s61 : Summ Try.prog := reads61.summ
/- chicane/pane.counted$1 -/
noncomputable def c72 : Code := (Try.f72.body.getD .skip)
noncomputable def env72 : Env Try.prog := []
noncomputable def L72 : Loops Try.prog := []
theorem L72_fit : (L72).fit c72 := Loops.fit_nil
noncomputable def law72 (x : (Int × Unit)) : Option ((Bool × Unit)) := (bif decide (2 ≤ x.fst) then some ((decide (x.fst ≤ 32), ())) else some ((false, ())))
theorem eq72 (x : Sh.Ts [Sh.int IntKind.i64]) : codeLaw Try.prog env72 200 (L72) Try.f72 c72 [.int .i64] [.bool] x = law72 x := by kernel_rfl
noncomputable def fn72 (x : (Int × Unit)) : Option ((Bool × Unit)) := law72 x
theorem reads72 : Reads Try.prog 72 [.int .i64] [.bool] fn72 := (Reads.of_code mixed (fn := Try.f72) (c := c72) Try.func72 (by kernel_rfl) (by kernel_rfl) env72 200 (L72_fit) (by kernel_rfl)).to (eq72)
noncomputable def s72 : Summ Try.prog := reads72.summ
/- chicane/pane.counted$2 -/
noncomputable def c73 : Code := (Try.f73.body.getD .skip)
noncomputable def env73 : Env Try.prog := []
noncomputable def s73 : Summ Try.prog := inlSumm onlyM mixed 73 Try.f73 c73 Try.func73 (by kernel_rfl) (by kernel_rfl) env73 200 [] Loops.fit_nil
/- slices.IndexFunc[[][]chicane/api.Fx,[]chicane/api.Fx] -/
noncomputable def c74x61 : Code := (Try.f74.body.getD .skip)
noncomputable def env74x61 : Env Try.prog := [s61]
noncomputable def b74x61_0 : Code := ((kid ((subAt c74x61 [0, 1, 0, 1]).getD .skip) 0).getD .skip)
noncomputable def kx74x61_0 : Exit → List Nat | .ret => [4] | _ => []
noncomputable def Li74x61_0 (N0 : Nat) : Loops Try.prog := []
noncomputable def ls74x61_0 (N0 : Nat) : LSumm Try.prog := loopSumm mixed env74x61 200 (Li74x61_0 N0) b74x61_0 (Loops.fit_nil) [0, 1, 7, 8] kx74x61_0 (N0)
noncomputable def ln74x61_0 {β : Type} (N0 : Nat) (n : Nat) (t : List AV) (h : Heap) (K : Exit → List AV → Heap → Option β) : Option β := loopN Try.prog env74x61 (Sh.nes [.rows (.int .i64)] + Sh.nes [] + List.length (α := Sh) []) 200 (Li74x61_0 N0) b74x61_0 [0, 1, 7, 8] kx74x61_0 n t h K
noncomputable def L74x61 (N0 : Nat) : Loops Try.prog := [([0, 1, 0, 1], ls74x61_0 N0)]
theorem L74x61_fit (N0 : Nat) : (L74x61 N0).fit c74x61 := Loops.fit_cons (by kernel_rfl) (Loops.fit_nil)
noncomputable def K74x61 : Exit → List AV → Heap → Option (Sh.Ts [.int .i64]) := fun e t h => outK (P := Try.prog) Try.f74 [.int .i64] e t h
noncomputable def rk74x61_0 (N0 : Nat) : Exit → List AV → Heap → Option (Sh.Ts [.int .i64]) := (blkK 0 (seqK Try.prog env74x61 (Sh.nes [.rows (.int .i64)] + Sh.nes [] + List.length (α := Sh) []) 198 (L74x61 N0) [1, 1] ((subAt c74x61 [1, 1]).getD .skip) K74x61))
noncomputable def t74x61_0 (N0 : Nat) (x : Sh.Ts [(Sh.int IntKind.i64).rows]) (i6 : Int) : List AV := [AV.slc 0 0 (List.length x.fst) Cap.low, AV.fn (Fn.func 61) [] [], AV.any, AV.any, AV.any, AV.any, AV.any, AV.val (Value.int IntKind.i64 (↑(List.length x.fst) : Int)), AV.val (Value.int IntKind.i64 i6), AV.any, AV.any, AV.any, AV.any, AV.any, AV.any, AV.any, AV.any, AV.any, AV.any]
noncomputable def h74x61_0 (N0 : Nat) (x : Sh.Ts [(Sh.int IntKind.i64).rows]) (i6 : Int) : Heap := [Ent.live (Blk.mk (Cells.arrs (Sh.int IntKind.i64) x.fst) false none)]
noncomputable def tx74x61_0_0 (N0 : Nat) (x : Sh.Ts [(Sh.int IntKind.i64).rows]) (w9 : Int) : List AV := [AV.any, AV.any, AV.any, AV.any, AV.val (Value.int IntKind.i64 w9), AV.any, AV.any, AV.any, AV.any, AV.any, AV.any, AV.any, AV.any, AV.any, AV.any, AV.any, AV.any, AV.any, AV.any]
noncomputable def hx74x61_0_0 (N0 : Nat) (x : Sh.Ts [(Sh.int IntKind.i64).rows]) (w9 : Int) : Heap := [Ent.live (Blk.mk (Cells.arrs (Sh.int IntKind.i64) x.fst) false none)]
noncomputable def tx74x61_0_1 (N0 : Nat) (x : Sh.Ts [(Sh.int IntKind.i64).rows]) : List AV := [AV.any, AV.any, AV.any, AV.any, AV.any, AV.any, AV.any, AV.any, AV.any, AV.any, AV.any, AV.any, AV.any, AV.any, AV.any, AV.any, AV.any, AV.any, AV.any]
noncomputable def hx74x61_0_1 (N0 : Nat) (x : Sh.Ts [(Sh.int IntKind.i64).rows]) : Heap := [Ent.live (Blk.mk (Cells.arrs (Sh.int IntKind.i64) x.fst) false none)]
noncomputable def law74x61_0 {β : Type} (N0 : Nat) (x : ((List (List Int)) × Unit)) (k0 : Int → Option β) (k1 : Option β) : Nat → Int → Option β
  | 0, _ => none
  | n + 1, i6 => (bif decide (i6 < (↑(List.length x.fst) : Int)) then (bif decide (0 ≤ i6) && decide (i6 < (↑(List.length x.fst) : Int)) then (Option.bind x.fst[i6.toNat]? fun v7 => (Option.bind (fn61 (v7, ())) fun v8 => (bif v8.fst then k0 i6 else law74x61_0 N0 x k0 k1 n (IntKind.i64.wrap (i6 + 1))))) else none) else k1)
theorem leq74x61_0 {β : Type} (N0 : Nat) (x : Sh.Ts [(Sh.int IntKind.i64).rows]) (K : Exit → List AV → Heap → Option β) : ∀ (n : Nat) (i6 : Int), ln74x61_0 N0 n (t74x61_0 N0 x i6) (h74x61_0 N0 x i6) K = law74x61_0 N0 x (fun w9 => K (Exit.ret) (tx74x61_0_0 N0 x w9) (hx74x61_0_0 N0 x w9)) (K (Exit.exit 0) (tx74x61_0_1 N0 x) (hx74x61_0_1 N0 x)) n i6
  | 0, _ => rfl
  | n + 1, i6 => by
    have h : ln74x61_0 N0 (n + 1) (t74x61_0 N0 x i6) (h74x61_0 N0 x i6) K = (bif decide (i6 < (↑(List.length x.fst) : Int)) then (bif decide (0 ≤ i6) && decide (i6 < (↑(List.length x.fst) : Int)) then (Option.bind (x.fst[0 + i6.toNat]?) fun v7 => (bif decide (v7.length = v7.length) && true then (Option.bind (fn61 (v7, ())) fun v8 => (bif v8.fst then K (Exit.ret) (tx74x61_0_0 N0 x i6) (hx74x61_0_0 N0 x i6) else ln74x61_0 N0 n (t74x61_0 N0 x (IntKind.i64.wrap (i6 + 1))) (h74x61_0 N0 x (IntKind.i64.wrap (i6 + 1))) K)) else none)) else none) else K (Exit.exit 0) (tx74x61_0_1 N0 x) (hx74x61_0_1 N0 x)) := by kernel_rfl
    rw [h]
    simp only [decide_self, decide_true, Nat.zero_add, Bool.and_true, Bool.true_and, cond_true, law74x61_0, leq74x61_0 N0 x K n]
theorem rest74x61_0_0 (N0 : Nat) (x : Sh.Ts [(Sh.int IntKind.i64).rows]) (w10 : Int) : rk74x61_0 N0 (Exit.ret) (tx74x61_0_0 N0 x w10) (hx74x61_0_0 N0 x w10) = some ((w10, ())) := by kernel_rfl
theorem rest74x61_0_1 (N0 : Nat) (x : Sh.Ts [(Sh.int IntKind.i64).rows]) : rk74x61_0 N0 (Exit.exit 0) (tx74x61_0_1 N0 x) (hx74x61_0_1 N0 x) = some ((-1, ())) := by kernel_rfl
noncomputable def law74x61 (N0 : Nat) (x : ((List (List Int)) × Unit)) (xs : (Unit)) : Option ((Int × Unit)) := (law74x61_0 N0 x (fun w10 => some ((w10, ()))) (some ((-1, ()))) N0 0)
theorem eq74x61 (N0 : Nat) (x : Sh.Ts [(Sh.int IntKind.i64).rows]) (xs : Sh.Ts []) : codeLawC Try.prog env74x61 200 (L74x61 N0) Try.f74 c74x61 [.rows (.int .i64)] 61 [] [.int .i64] x xs = law74x61 N0 x xs := by
  have h : codeLawC Try.prog env74x61 200 (L74x61 N0) Try.f74 c74x61 [.rows (.int .i64)] 61 [] [.int .i64] x xs = (ln74x61_0 N0 N0 (t74x61_0 N0 x 0) (h74x61_0 N0 x 0) (rk74x61_0 N0)) := by kernel_rfl
  rw [h]
  unfold law74x61
  simp only [decide_self, decide_true, Nat.zero_add, Bool.and_true, Bool.true_and, cond_true, leq74x61_0, rest74x61_0_0, rest74x61_0_1]
noncomputable def fn74x61 (x : ((List (List Int)) × Unit)) (xs : (Unit)) : Option ((Int × Unit)) := law74x61 (10 ^ 30) x xs
theorem reads74x61 : ReadsC Try.prog 74 [.rows (.int .i64)] 61 [] [.int .i64] fn74x61 := (ReadsC.of_code mixed (fn := Try.f74) (c := c74x61) Try.func74 (by kernel_rfl) (by kernel_rfl) env74x61 200 (L74x61_fit _) (by kernel_rfl)).to (eq74x61 _)
noncomputable def s74x61 : Summ Try.prog := reads74x61.summ (by kernel_rfl)
/- slices.IndexFunc[[][]chicane/api.Fx,[]chicane/api.Fx] -/
noncomputable def c74x73 : Code := (Try.f74.body.getD .skip)
noncomputable def env74x73 : Env Try.prog := [s73]
noncomputable def b74x73_0 : Code := ((kid ((subAt c74x73 [0, 1, 0, 1]).getD .skip) 0).getD .skip)
noncomputable def kx74x73_0 : Exit → List Nat | .ret => [4] | _ => []
noncomputable def Li74x73_0 (N0 : Nat) : Loops Try.prog := []
noncomputable def ls74x73_0 (N0 : Nat) : LSumm Try.prog := loopSumm mixed env74x73 200 (Li74x73_0 N0) b74x73_0 (Loops.fit_nil) [0, 1, 7, 8] kx74x73_0 (N0)
noncomputable def ln74x73_0 {β : Type} (N0 : Nat) (n : Nat) (t : List AV) (h : Heap) (K : Exit → List AV → Heap → Option β) : Option β := loopN Try.prog env74x73 (Sh.nes [.rows (.int .i64)] + Sh.nes [PaneSh] + List.length (α := Sh) [PaneSh]) 200 (Li74x73_0 N0) b74x73_0 [0, 1, 7, 8] kx74x73_0 n t h K
noncomputable def L74x73 (N0 : Nat) : Loops Try.prog := [([0, 1, 0, 1], ls74x73_0 N0)]
theorem L74x73_fit (N0 : Nat) : (L74x73 N0).fit c74x73 := Loops.fit_cons (by kernel_rfl) (Loops.fit_nil)
noncomputable def K74x73 : Exit → List AV → Heap → Option (Sh.Ts [.int .i64]) := fun e t h => outK (P := Try.prog) Try.f74 [.int .i64] e t h
noncomputable def rk74x73_0 (N0 : Nat) : Exit → List AV → Heap → Option (Sh.Ts [.int .i64]) := (blkK 0 (seqK Try.prog env74x73 (Sh.nes [.rows (.int .i64)] + Sh.nes [PaneSh] + List.length (α := Sh) [PaneSh]) 198 (L74x73 N0) [1, 1] ((subAt c74x73 [1, 1]).getD .skip) K74x73))
noncomputable def t74x73_0 (N0 : Nat) (x : Sh.Ts [(Sh.int IntKind.i64).rows]) (xs : Sh.Ts [PaneSh]) (i11 : Int) : List AV := [AV.slc 0 0 (List.length x.fst) Cap.low, AV.fn (Fn.func 73) [] [AV.ptr 4 0], AV.any, AV.any, AV.any, AV.any, AV.any, AV.val (Value.int IntKind.i64 (↑(List.length x.fst) : Int)), AV.val (Value.int IntKind.i64 i11), AV.any, AV.any, AV.any, AV.any, AV.any, AV.any, AV.any, AV.any, AV.any, AV.any]
noncomputable def h74x73_0 (N0 : Nat) (x : Sh.Ts [(Sh.int IntKind.i64).rows]) (xs : Sh.Ts [PaneSh]) (i11 : Int) : Heap := [Ent.live (Blk.mk (Cells.arrs (Sh.int IntKind.i64) x.fst) false none), Ent.live (Blk.mk (Cells.arr (Sh.int IntKind.i64) xs.fst.fst) false none), Ent.live (Blk.mk (Cells.arr (Sh.int IntKind.i64) xs.fst.snd.fst) false none), Ent.live (Blk.mk (Cells.arrs (Sh.int IntKind.i64) xs.fst.snd.snd.fst) false none), Ent.live (Blk.mk (Cells.lit [AV.slc 1 0 (List.length xs.fst.fst) Cap.low, AV.slc 2 0 (List.length xs.fst.snd.fst) Cap.low, AV.slc 3 0 (List.length xs.fst.snd.snd.fst) Cap.low]) false none)]
noncomputable def tx74x73_0_0 (N0 : Nat) (x : Sh.Ts [(Sh.int IntKind.i64).rows]) (xs : Sh.Ts [PaneSh]) (w13 : Int) : List AV := [AV.any, AV.any, AV.any, AV.any, AV.val (Value.int IntKind.i64 w13), AV.any, AV.any, AV.any, AV.any, AV.any, AV.any, AV.any, AV.any, AV.any, AV.any, AV.any, AV.any, AV.any, AV.any]
noncomputable def hx74x73_0_0 (N0 : Nat) (x : Sh.Ts [(Sh.int IntKind.i64).rows]) (xs : Sh.Ts [PaneSh]) (w13 : Int) : Heap := [Ent.live (Blk.mk (Cells.arrs (Sh.int IntKind.i64) x.fst) false none), Ent.live (Blk.mk (Cells.arr (Sh.int IntKind.i64) xs.fst.fst) false none), Ent.live (Blk.mk (Cells.arr (Sh.int IntKind.i64) xs.fst.snd.fst) false none), Ent.live (Blk.mk (Cells.arrs (Sh.int IntKind.i64) xs.fst.snd.snd.fst) false none), Ent.live (Blk.mk (Cells.lit [AV.slc 1 0 (List.length xs.fst.fst) Cap.low, AV.slc 2 0 (List.length xs.fst.snd.fst) Cap.low, AV.slc 3 0 (List.length xs.fst.snd.snd.fst) Cap.low]) false none)]
noncomputable def tx74x73_0_1 (N0 : Nat) (x : Sh.Ts [(Sh.int IntKind.i64).rows]) (xs : Sh.Ts [PaneSh]) : List AV := [AV.any, AV.any, AV.any, AV.any, AV.any, AV.any, AV.any, AV.any, AV.any, AV.any, AV.any, AV.any, AV.any, AV.any, AV.any, AV.any, AV.any, AV.any, AV.any]
noncomputable def hx74x73_0_1 (N0 : Nat) (x : Sh.Ts [(Sh.int IntKind.i64).rows]) (xs : Sh.Ts [PaneSh]) : Heap := [Ent.live (Blk.mk (Cells.arrs (Sh.int IntKind.i64) x.fst) false none), Ent.live (Blk.mk (Cells.arr (Sh.int IntKind.i64) xs.fst.fst) false none), Ent.live (Blk.mk (Cells.arr (Sh.int IntKind.i64) xs.fst.snd.fst) false none), Ent.live (Blk.mk (Cells.arrs (Sh.int IntKind.i64) xs.fst.snd.snd.fst) false none), Ent.live (Blk.mk (Cells.lit [AV.slc 1 0 (List.length xs.fst.fst) Cap.low, AV.slc 2 0 (List.length xs.fst.snd.fst) Cap.low, AV.slc 3 0 (List.length xs.fst.snd.snd.fst) Cap.low]) false none)]
noncomputable def law74x73_0 {β : Type} (N0 : Nat) (x : ((List (List Int)) × Unit)) (xs : (PaneT × Unit)) (k0 : Int → Option β) (k1 : Option β) : Nat → Int → Option β
  | 0, _ => none
  | n + 1, i11 => (bif decide (i11 < (↑(List.length x.fst) : Int)) then (bif decide (0 ≤ i11) && decide (i11 < (↑(List.length x.fst) : Int)) then (Option.bind x.fst[i11.toNat]? fun v12 => (bif (↑v12.length : Int) != (↑(List.length xs.fst.fst) : Int) then k0 i11 else law74x73_0 N0 x xs k0 k1 n (IntKind.i64.wrap (i11 + 1)))) else none) else k1)
theorem leq74x73_0 {β : Type} (N0 : Nat) (x : Sh.Ts [(Sh.int IntKind.i64).rows]) (xs : Sh.Ts [PaneSh]) (K : Exit → List AV → Heap → Option β) : ∀ (n : Nat) (i11 : Int), ln74x73_0 N0 n (t74x73_0 N0 x xs i11) (h74x73_0 N0 x xs i11) K = law74x73_0 N0 x xs (fun w13 => K (Exit.ret) (tx74x73_0_0 N0 x xs w13) (hx74x73_0_0 N0 x xs w13)) (K (Exit.exit 0) (tx74x73_0_1 N0 x xs) (hx74x73_0_1 N0 x xs)) n i11
  | 0, _ => rfl
  | n + 1, i11 => by
    have h : ln74x73_0 N0 (n + 1) (t74x73_0 N0 x xs i11) (h74x73_0 N0 x xs i11) K = (bif decide (i11 < (↑(List.length x.fst) : Int)) then (bif decide (0 ≤ i11) && decide (i11 < (↑(List.length x.fst) : Int)) then (Option.bind (x.fst[0 + i11.toNat]?) fun v12 => (bif (↑v12.length : Int) != (↑(List.length xs.fst.fst) : Int) then K (Exit.ret) (tx74x73_0_0 N0 x xs i11) (hx74x73_0_0 N0 x xs i11) else ln74x73_0 N0 n (t74x73_0 N0 x xs (IntKind.i64.wrap (i11 + 1))) (h74x73_0 N0 x xs (IntKind.i64.wrap (i11 + 1))) K)) else none) else K (Exit.exit 0) (tx74x73_0_1 N0 x xs) (hx74x73_0_1 N0 x xs)) := by kernel_rfl
    rw [h]
    simp only [decide_self, decide_true, Nat.zero_add, Bool.and_true, Bool.true_and, cond_true, law74x73_0, leq74x73_0 N0 x xs K n]
theorem rest74x73_0_0 (N0 : Nat) (x : Sh.Ts [(Sh.int IntKind.i64).rows]) (xs : Sh.Ts [PaneSh]) (w14 : Int) : rk74x73_0 N0 (Exit.ret) (tx74x73_0_0 N0 x xs w14) (hx74x73_0_0 N0 x xs w14) = some ((w14, ())) := by kernel_rfl
theorem rest74x73_0_1 (N0 : Nat) (x : Sh.Ts [(Sh.int IntKind.i64).rows]) (xs : Sh.Ts [PaneSh]) : rk74x73_0 N0 (Exit.exit 0) (tx74x73_0_1 N0 x xs) (hx74x73_0_1 N0 x xs) = some ((-1, ())) := by kernel_rfl
noncomputable def law74x73 (N0 : Nat) (x : ((List (List Int)) × Unit)) (xs : (PaneT × Unit)) : Option ((Int × Unit)) := (law74x73_0 N0 x xs (fun w14 => some ((w14, ()))) (some ((-1, ()))) N0 0)
theorem eq74x73 (N0 : Nat) (x : Sh.Ts [(Sh.int IntKind.i64).rows]) (xs : Sh.Ts [PaneSh]) : codeLawC Try.prog env74x73 200 (L74x73 N0) Try.f74 c74x73 [.rows (.int .i64)] 73 [PaneSh] [.int .i64] x xs = law74x73 N0 x xs := by
  have h : codeLawC Try.prog env74x73 200 (L74x73 N0) Try.f74 c74x73 [.rows (.int .i64)] 73 [PaneSh] [.int .i64] x xs = (ln74x73_0 N0 N0 (t74x73_0 N0 x xs 0) (h74x73_0 N0 x xs 0) (rk74x73_0 N0)) := by kernel_rfl
  rw [h]
  unfold law74x73
  simp only [decide_self, decide_true, Nat.zero_add, Bool.and_true, Bool.true_and, cond_true, leq74x73_0, rest74x73_0_0, rest74x73_0_1]
noncomputable def fn74x73 (x : ((List (List Int)) × Unit)) (xs : (PaneT × Unit)) : Option ((Int × Unit)) := law74x73 (10 ^ 30) x xs
theorem reads74x73 : ReadsC Try.prog 74 [.rows (.int .i64)] 73 [PaneSh] [.int .i64] fn74x73 := (ReadsC.of_code mixed (fn := Try.f74) (c := c74x73) Try.func74 (by kernel_rfl) (by kernel_rfl) env74x73 200 (L74x73_fit _) (by kernel_rfl)).to (eq74x73 _)
noncomputable def s74x73 : Summ Try.prog := reads74x73.summ (by kernel_rfl)
noncomputable def s74 : Summ Try.prog := (Summ.choose (lastFn 61) s74x61 s74x73 rfl)
/- slices.ContainsFunc[[][]chicane/api.Fx,[]chicane/api.Fx] -/
noncomputable def c65x61 : Code := (Try.f65.body.getD .skip)
noncomputable def env65x61 : Env Try.prog := [s74]
noncomputable def L65x61 : Loops Try.prog := []
theorem L65x61_fit : (L65x61).fit c65x61 := Loops.fit_nil
noncomputable def law65x61 (x : ((List (List Int)) × Unit)) (xs : (Unit)) : Option ((Bool × Unit)) := (Option.bind (fn74x61 x ()) fun v0 => some ((decide (v0.fst ≥ 0), ())))
theorem eq65x61 (x : Sh.Ts [(Sh.int IntKind.i64).rows]) (xs : Sh.Ts []) : codeLawC Try.prog env65x61 200 (L65x61) Try.f65 c65x61 [.rows (.int .i64)] 61 [] [.bool] x xs = law65x61 x xs := by
  have h : codeLawC Try.prog env65x61 200 (L65x61) Try.f65 c65x61 [.rows (.int .i64)] 61 [] [.bool] x xs = (bif decide (List.length x.fst = List.length x.fst) && true && true then (Option.bind (fn74x61 x ()) fun v0 => some ((decide (v0.fst ≥ 0), ()))) else none) := by kernel_rfl
  rw [h]
  unfold law65x61
  simp only [decide_self, decide_true, Nat.zero_add, Bool.and_true, Bool.true_and, cond_true]
noncomputable def fn65x61 (x : ((List (List Int)) × Unit)) (xs : (Unit)) : Option ((Bool × Unit)) := law65x61 x xs
theorem reads65x61 : ReadsC Try.prog 65 [.rows (.int .i64)] 61 [] [.bool] fn65x61 := (ReadsC.of_code mixed (fn := Try.f65) (c := c65x61) Try.func65 (by kernel_rfl) (by kernel_rfl) env65x61 200 (L65x61_fit) (by kernel_rfl)).to (eq65x61)
noncomputable def s65x61 : Summ Try.prog := reads65x61.summ (by kernel_rfl)
/- slices.ContainsFunc[[][]chicane/api.Fx,[]chicane/api.Fx] -/
noncomputable def c65x73 : Code := (Try.f65.body.getD .skip)
noncomputable def env65x73 : Env Try.prog := [s74]
noncomputable def L65x73 : Loops Try.prog := []
theorem L65x73_fit : (L65x73).fit c65x73 := Loops.fit_nil
noncomputable def law65x73 (x : ((List (List Int)) × Unit)) (xs : (PaneT × Unit)) : Option ((Bool × Unit)) := (Option.bind (fn74x73 x xs) fun v0 => some ((decide (v0.fst ≥ 0), ())))
theorem eq65x73 (x : Sh.Ts [(Sh.int IntKind.i64).rows]) (xs : Sh.Ts [PaneSh]) : codeLawC Try.prog env65x73 200 (L65x73) Try.f65 c65x73 [.rows (.int .i64)] 73 [PaneSh] [.bool] x xs = law65x73 x xs := by
  have h : codeLawC Try.prog env65x73 200 (L65x73) Try.f65 c65x73 [.rows (.int .i64)] 73 [PaneSh] [.bool] x xs = (bif decide (List.length x.fst = List.length x.fst) && true && (decide (List.length xs.fst.fst = List.length xs.fst.fst) && (decide (List.length xs.fst.snd.fst = List.length xs.fst.snd.fst) && (decide (List.length xs.fst.snd.snd.fst = List.length xs.fst.snd.snd.fst) && true)) && true) then (Option.bind (fn74x73 x xs) fun v0 => some ((decide (v0.fst ≥ 0), ()))) else none) := by kernel_rfl
  rw [h]
  unfold law65x73
  simp only [decide_self, decide_true, Nat.zero_add, Bool.and_true, Bool.true_and, cond_true]
noncomputable def fn65x73 (x : ((List (List Int)) × Unit)) (xs : (PaneT × Unit)) : Option ((Bool × Unit)) := law65x73 x xs
theorem reads65x73 : ReadsC Try.prog 65 [.rows (.int .i64)] 73 [PaneSh] [.bool] fn65x73 := (ReadsC.of_code mixed (fn := Try.f65) (c := c65x73) Try.func65 (by kernel_rfl) (by kernel_rfl) env65x73 200 (L65x73_fit) (by kernel_rfl)).to (eq65x73)
noncomputable def s65x73 : Summ Try.prog := reads65x73.summ (by kernel_rfl)
noncomputable def s65 : Summ Try.prog := (Summ.choose (lastFn 61) s65x61 s65x73 rfl)
/- chicane/pane.counted -/
noncomputable def c64 : Code := (Try.f64.body.getD .skip)
noncomputable def env64 : Env Try.prog := [s72, s73, s65]
noncomputable def L64 : Loops Try.prog := []
theorem L64_fit : (L64).fit c64 := Loops.fit_nil
noncomputable def law64 (x : (PaneT × Unit)) : Option ((Bool × Unit)) := (Option.bind (fn72 ((↑(List.length x.fst.fst) : Int), ())) fun v0 => (bif v0.fst then (Option.bind (fn72 ((↑(List.length x.fst.snd.fst) : Int), ())) fun v1 => (bif v1.fst then (bif (↑(List.length x.fst.snd.snd.fst) : Int) == (↑(List.length x.fst.snd.fst) : Int) then (Option.bind (fn65x73 x.fst.snd.snd x) fun v2 => some ((!v2.fst, ()))) else some ((false, ()))) else some ((false, ())))) else some ((false, ()))))
theorem eq64 (x : Sh.Ts [PaneSh]) : codeLaw Try.prog env64 200 (L64) Try.f64 c64 [PaneSh] [.bool] x = law64 x := by
  have h : codeLaw Try.prog env64 200 (L64) Try.f64 c64 [PaneSh] [.bool] x = (Option.bind (fn72 ((↑(List.length x.fst.fst) : Int), ())) fun v0 => (bif v0.fst then (Option.bind (fn72 ((↑(List.length x.fst.snd.fst) : Int), ())) fun v1 => (bif v1.fst then (bif (↑(List.length x.fst.snd.snd.fst) : Int) == (↑(List.length x.fst.snd.fst) : Int) then (bif decide (List.length x.fst.snd.snd.fst = List.length x.fst.snd.snd.fst) && true && (decide (List.length x.fst.fst = List.length x.fst.fst) && (decide (List.length x.fst.snd.fst = List.length x.fst.snd.fst) && (decide (List.length x.fst.snd.snd.fst = List.length x.fst.snd.snd.fst) && true)) && true) then (Option.bind (fn65x73 x.fst.snd.snd x) fun v2 => some ((!v2.fst, ()))) else none) else some ((false, ()))) else some ((false, ())))) else some ((false, ())))) := by kernel_rfl
  rw [h]
  unfold law64
  simp only [decide_self, decide_true, Nat.zero_add, Bool.and_true, Bool.true_and, cond_true]
noncomputable def fn64 (x : (PaneT × Unit)) : Option ((Bool × Unit)) := law64 x
theorem reads64 : Reads Try.prog 64 [PaneSh] [.bool] fn64 := (Reads.of_code mixed (fn := Try.f64) (c := c64) Try.func64 (by kernel_rfl) (by kernel_rfl) env64 200 (L64_fit) (by kernel_rfl)).to (eq64)
noncomputable def s64 : Summ Try.prog := reads64.summ
/- chicane/pane.rises$1 -/
noncomputable def c76 : Code := (Try.f76.body.getD .skip)
noncomputable def env76 : Env Try.prog := []
noncomputable def L76 : Loops Try.prog := []
theorem L76_fit : (L76).fit c76 := Loops.fit_nil
noncomputable def law76 (x : (Int × Int × Unit)) : Option ((Int × Unit)) := (bif decide (x.fst > x.snd.fst) then some ((1, ())) else some ((-1, ())))
theorem eq76 (x : Sh.Ts [Sh.int IntKind.i64, Sh.int IntKind.i64]) : codeLaw Try.prog env76 200 (L76) Try.f76 c76 [.int .i64, .int .i64] [.int .i64] x = law76 x := by kernel_rfl
noncomputable def fn76 (x : (Int × Int × Unit)) : Option ((Int × Unit)) := law76 x
theorem reads76 : Reads Try.prog 76 [.int .i64, .int .i64] [.int .i64] fn76 := (Reads.of_code mixed (fn := Try.f76) (c := c76) Try.func76 (by kernel_rfl) (by kernel_rfl) env76 200 (L76_fit) (by kernel_rfl)).to (eq76)
noncomputable def s76 : Summ Try.prog := reads76.summ
/- slices.IsSortedFunc[[]chicane/api.Fx,chicane/api.Fx] -/
noncomputable def c75x76 : Code := (Try.f75.body.getD .skip)
noncomputable def env75x76 : Env Try.prog := [s76]
noncomputable def b75x76_0 : Code := ((kid ((subAt c75x76 [0, 1, 0, 1]).getD .skip) 0).getD .skip)
noncomputable def kx75x76_0 : Exit → List Nat | .ret => [4] | _ => []
noncomputable def Li75x76_0 (N0 : Nat) : Loops Try.prog := []
noncomputable def ls75x76_0 (N0 : Nat) : LSumm Try.prog := loopSumm mixed env75x76 200 (Li75x76_0 N0) b75x76_0 (Loops.fit_nil) [0, 1, 5] kx75x76_0 (N0)
noncomputable def ln75x76_0 {β : Type} (N0 : Nat) (n : Nat) (t : List AV) (h : Heap) (K : Exit → List AV → Heap → Option β) : Option β := loopN Try.prog env75x76 (Sh.nes [.sl (.int .i64)] + Sh.nes [] + List.length (α := Sh) []) 200 (Li75x76_0 N0) b75x76_0 [0, 1, 5] kx75x76_0 n t h K
noncomputable def L75x76 (N0 : Nat) : Loops Try.prog := [([0, 1, 0, 1], ls75x76_0 N0)]
theorem L75x76_fit (N0 : Nat) : (L75x76 N0).fit c75x76 := Loops.fit_cons (by kernel_rfl) (Loops.fit_nil)
noncomputable def K75x76 : Exit → List AV → Heap → Option (Sh.Ts [.bool]) := fun e t h => outK (P := Try.prog) Try.f75 [.bool] e t h
noncomputable def rk75x76_0 (N0 : Nat) : Exit → List AV → Heap → Option (Sh.Ts [.bool]) := (blkK 0 (seqK Try.prog env75x76 (Sh.nes [.sl (.int .i64)] + Sh.nes [] + List.length (α := Sh) []) 198 (L75x76 N0) [1, 1] ((subAt c75x76 [1, 1]).getD .skip) K75x76))
noncomputable def t75x76_0 (N0 : Nat) (x : Sh.Ts [(Sh.int IntKind.i64).sl]) (i6 : Int) : List AV := [AV.slc 0 0 (List.length x.fst) Cap.low, AV.fn (Fn.func 76) [] [], AV.any, AV.any, AV.any, AV.val (Value.int IntKind.i64 i6), AV.any, AV.any, AV.any, AV.any, AV.any, AV.any, AV.any, AV.any, AV.any, AV.any, AV.any, AV.any, AV.any, AV.any, AV.any, AV.any, AV.any, AV.any, AV.any]
noncomputable def h75x76_0 (N0 : Nat) (x : Sh.Ts [(Sh.int IntKind.i64).sl]) (i6 : Int) : Heap := [Ent.live (Blk.mk (Cells.arr (Sh.int IntKind.i64) x.fst) false none)]
noncomputable def tx75x76_0_0 (N0 : Nat) (x : Sh.Ts [(Sh.int IntKind.i64).sl]) : List AV := [AV.any, AV.any, AV.any, AV.any, AV.val (Value.bool false), AV.any, AV.any, AV.any, AV.any, AV.any, AV.any, AV.any, AV.any, AV.any, AV.any, AV.any, AV.any, AV.any, AV.any, AV.any, AV.any, AV.any, AV.any, AV.any, AV.any]
noncomputable def hx75x76_0_0 (N0 : Nat) (x : Sh.Ts [(Sh.int IntKind.i64).sl]) : Heap := [Ent.live (Blk.mk (Cells.arr (Sh.int IntKind.i64) x.fst) false none)]
noncomputable def tx75x76_0_1 (N0 : Nat) (x : Sh.Ts [(Sh.int IntKind.i64).sl]) : List AV := [AV.any, AV.any, AV.any, AV.any, AV.any, AV.any, AV.any, AV.any, AV.any, AV.any, AV.any, AV.any, AV.any, AV.any, AV.any, AV.any, AV.any, AV.any, AV.any, AV.any, AV.any, AV.any, AV.any, AV.any, AV.any]
noncomputable def hx75x76_0_1 (N0 : Nat) (x : Sh.Ts [(Sh.int IntKind.i64).sl]) : Heap := [Ent.live (Blk.mk (Cells.arr (Sh.int IntKind.i64) x.fst) false none)]
noncomputable def law75x76_0 {β : Type} (N0 : Nat) (x : ((List Int) × Unit)) (k0 : Option β) (k1 : Option β) : Nat → Int → Option β
  | 0, _ => none
  | n + 1, i6 => (bif decide (i6 > 0) then (bif decide (0 ≤ i6) && decide (i6 < (↑(List.length x.fst) : Int)) then (Option.bind x.fst[i6.toNat]? fun v7 => (bif decide (0 ≤ IntKind.i64.wrap (i6 - 1)) && decide (IntKind.i64.wrap (i6 - 1) < (↑(List.length x.fst) : Int)) then (Option.bind (x.fst[(IntKind.i64.wrap (i6 - 1)).toNat]?) fun v8 => (Option.bind (fn76 (v7, v8, ())) fun v9 => (bif decide (v9.fst < 0) then k0 else law75x76_0 N0 x k0 k1 n (IntKind.i64.wrap (i6 - 1))))) else none)) else none) else k1)
theorem leq75x76_0 {β : Type} (N0 : Nat) (x : Sh.Ts [(Sh.int IntKind.i64).sl]) (K : Exit → List AV → Heap → Option β) : ∀ (n : Nat) (i6 : Int), ln75x76_0 N0 n (t75x76_0 N0 x i6) (h75x76_0 N0 x i6) K = law75x76_0 N0 x (K (Exit.ret) (tx75x76_0_0 N0 x) (hx75x76_0_0 N0 x)) (K (Exit.exit 0) (tx75x76_0_1 N0 x) (hx75x76_0_1 N0 x)) n i6
  | 0, _ => rfl
  | n + 1, i6 => by
    have h : ln75x76_0 N0 (n + 1) (t75x76_0 N0 x i6) (h75x76_0 N0 x i6) K = (bif decide (i6 > 0) then (bif decide (0 ≤ i6) && decide (i6 < (↑(List.length x.fst) : Int)) then (Option.bind (x.fst[0 + i6.toNat]?) fun v7 => (bif decide (0 ≤ IntKind.i64.wrap (i6 - 1)) && decide (IntKind.i64.wrap (i6 - 1) < (↑(List.length x.fst) : Int)) then (Option.bind (x.fst[0 + (IntKind.i64.wrap (i6 - 1)).toNat]?) fun v8 => (Option.bind (fn76 (v7, v8, ())) fun v9 => (bif decide (v9.fst < 0) then K (Exit.ret) (tx75x76_0_0 N0 x) (hx75x76_0_0 N0 x) else ln75x76_0 N0 n (t75x76_0 N0 x (IntKind.i64.wrap (i6 - 1))) (h75x76_0 N0 x (IntKind.i64.wrap (i6 - 1))) K))) else none)) else none) else K (Exit.exit 0) (tx75x76_0_1 N0 x) (hx75x76_0_1 N0 x)) := by kernel_rfl
    rw [h]
    simp only [decide_self, decide_true, Nat.zero_add, Bool.and_true, Bool.true_and, cond_true, law75x76_0, leq75x76_0 N0 x K n]
theorem rest75x76_0_0 (N0 : Nat) (x : Sh.Ts [(Sh.int IntKind.i64).sl]) : rk75x76_0 N0 (Exit.ret) (tx75x76_0_0 N0 x) (hx75x76_0_0 N0 x) = some ((false, ())) := by kernel_rfl
theorem rest75x76_0_1 (N0 : Nat) (x : Sh.Ts [(Sh.int IntKind.i64).sl]) : rk75x76_0 N0 (Exit.exit 0) (tx75x76_0_1 N0 x) (hx75x76_0_1 N0 x) = some ((true, ())) := by kernel_rfl
noncomputable def law75x76 (N0 : Nat) (x : ((List Int) × Unit)) (xs : (Unit)) : Option ((Bool × Unit)) := (law75x76_0 N0 x (some ((false, ()))) (some ((true, ()))) N0 (IntKind.i64.wrap ((↑(List.length x.fst) : Int) - 1)))
theorem eq75x76 (N0 : Nat) (x : Sh.Ts [(Sh.int IntKind.i64).sl]) (xs : Sh.Ts []) : codeLawC Try.prog env75x76 200 (L75x76 N0) Try.f75 c75x76 [.sl (.int .i64)] 76 [] [.bool] x xs = law75x76 N0 x xs := by
  have h : codeLawC Try.prog env75x76 200 (L75x76 N0) Try.f75 c75x76 [.sl (.int .i64)] 76 [] [.bool] x xs = (ln75x76_0 N0 N0 (t75x76_0 N0 x (IntKind.i64.wrap ((↑(List.length x.fst) : Int) - 1))) (h75x76_0 N0 x (IntKind.i64.wrap ((↑(List.length x.fst) : Int) - 1))) (rk75x76_0 N0)) := by kernel_rfl
  rw [h]
  unfold law75x76
  simp only [decide_self, decide_true, Nat.zero_add, Bool.and_true, Bool.true_and, cond_true, leq75x76_0, rest75x76_0_0, rest75x76_0_1]
noncomputable def fn75x76 (x : ((List Int) × Unit)) (xs : (Unit)) : Option ((Bool × Unit)) := law75x76 (10 ^ 30) x xs
theorem reads75x76 : ReadsC Try.prog 75 [.sl (.int .i64)] 76 [] [.bool] fn75x76 := (ReadsC.of_code mixed (fn := Try.f75) (c := c75x76) Try.func75 (by kernel_rfl) (by kernel_rfl) env75x76 200 (L75x76_fit _) (by kernel_rfl)).to (eq75x76 _)
noncomputable def s75x76 : Summ Try.prog := reads75x76.summ (by kernel_rfl)
noncomputable def s75 : Summ Try.prog := s75x76
/- chicane/pane.rises -/
noncomputable def c66 : Code := (Try.f66.body.getD .skip)
noncomputable def env66 : Env Try.prog := [s75, s76]
noncomputable def L66 : Loops Try.prog := []
theorem L66_fit : (L66).fit c66 := Loops.fit_nil
noncomputable def law66 (x : ((List Int) × Unit)) : Option ((Bool × Unit)) := (Option.bind (fn75x76 x ()) fun v0 => some ((v0.fst, ())))
theorem eq66 (x : Sh.Ts [(Sh.int IntKind.i64).sl]) : codeLaw Try.prog env66 200 (L66) Try.f66 c66 [.sl (.int .i64)] [.bool] x = law66 x := by
  have h : codeLaw Try.prog env66 200 (L66) Try.f66 c66 [.sl (.int .i64)] [.bool] x = (bif decide (List.length x.fst = List.length x.fst) && true && true then (Option.bind (fn75x76 x ()) fun v0 => some ((v0.fst, ()))) else none) := by kernel_rfl
  rw [h]
  unfold law66
  simp only [decide_self, decide_true, Nat.zero_add, Bool.and_true, Bool.true_and, cond_true]
noncomputable def fn66 (x : ((List Int) × Unit)) : Option ((Bool × Unit)) := law66 x
theorem reads66 : Reads Try.prog 66 [.sl (.int .i64)] [.bool] fn66 := (Reads.of_code mixed (fn := Try.f66) (c := c66) Try.func66 (by kernel_rfl) (by kernel_rfl) env66 200 (L66_fit) (by kernel_rfl)).to (eq66)
noncomputable def s66 : Summ Try.prog := reads66.summ
/- chicane/pane.Right -/
noncomputable def c51 : Code := (Try.f51.body.getD .skip)
noncomputable def env51 : Env Try.prog := [s61, s64, s65, s66]
noncomputable def L51 : Loops Try.prog := []
theorem L51_fit : (L51).fit c51 := Loops.fit_nil
noncomputable def law51 (x : (PaneT × Unit)) : Option ((Int × Unit)) := (Option.bind (fn64 x) fun v0 => (bif !v0.fst then some ((42, ())) else (Option.bind (fn61 (x.fst.fst, ())) fun v1 => (bif v1.fst then some ((40, ())) else (Option.bind (fn61 (x.fst.snd.fst, ())) fun v2 => (bif v2.fst then some ((40, ())) else (Option.bind (fn65x61 x.fst.snd.snd ()) fun v3 => (bif v3.fst then some ((40, ())) else (Option.bind (fn66 (x.fst.fst, ())) fun v4 => (bif !v4.fst then some ((41, ())) else (Option.bind (fn66 (x.fst.snd.fst, ())) fun v5 => (bif !v5.fst then some ((41, ())) else some ((0, ()))))))))))))))
theorem eq51 (x : Sh.Ts [PaneSh]) : codeLaw Try.prog env51 200 (L51) Try.f51 c51 [PaneSh] [.int .i64] x = law51 x := by
  have h : codeLaw Try.prog env51 200 (L51) Try.f51 c51 [PaneSh] [.int .i64] x = (bif decide (List.length x.fst.fst = List.length x.fst.fst) && (decide (List.length x.fst.snd.fst = List.length x.fst.snd.fst) && (decide (List.length x.fst.snd.snd.fst = List.length x.fst.snd.snd.fst) && true)) && true then (Option.bind (fn64 x) fun v0 => (bif !v0.fst then some ((42, ())) else (bif decide (List.length x.fst.fst = List.length x.fst.fst) && true then (Option.bind (fn61 (x.fst.fst, ())) fun v1 => (bif v1.fst then some ((40, ())) else (bif decide (List.length x.fst.snd.fst = List.length x.fst.snd.fst) && true then (Option.bind (fn61 (x.fst.snd.fst, ())) fun v2 => (bif v2.fst then some ((40, ())) else (bif decide (List.length x.fst.snd.snd.fst = List.length x.fst.snd.snd.fst) && true && true then (Option.bind (fn65x61 x.fst.snd.snd ()) fun v3 => (bif v3.fst then some ((40, ())) else (bif decide (List.length x.fst.fst = List.length x.fst.fst) && true then (Option.bind (fn66 (x.fst.fst, ())) fun v4 => (bif !v4.fst then some ((41, ())) else (bif decide (List.length x.fst.snd.fst = List.length x.fst.snd.fst) && true then (Option.bind (fn66 (x.fst.snd.fst, ())) fun v5 => (bif !v5.fst then some ((41, ())) else some ((0, ())))) else none))) else none))) else none))) else none))) else none))) else none) := by kernel_rfl
  rw [h]
  unfold law51
  simp only [decide_self, decide_true, Nat.zero_add, Bool.and_true, Bool.true_and, cond_true]
noncomputable def fn51 (x : (PaneT × Unit)) : Option ((Int × Unit)) := law51 x
theorem reads51 : Reads Try.prog 51 [PaneSh] [.int .i64] fn51 := (Reads.of_code mixed (fn := Try.f51) (c := c51) Try.func51 (by kernel_rfl) (by kernel_rfl) env51 200 (L51_fit) (by kernel_rfl)).to (eq51)
noncomputable def s51 : Summ Try.prog := reads51.summ
/- slices.Grow[[]chicane/api.Fx,chicane/api.Fx] -/
noncomputable def c77 : Code := (Try.f77.body.getD .skip)
noncomputable def env77 : Env Try.prog := []
noncomputable def s77 : Summ Try.prog := inlSumm allRw mixed 77 Try.f77 c77 Try.func77 (by kernel_rfl) (by kernel_rfl) env77 200 [] Loops.fit_nil
/- slices.Concat[[]chicane/api.Fx,chicane/api.Fx] -/
noncomputable def c67 : Code := (Try.f67.body.getD .skip)
noncomputable def env67 : Env Try.prog := [s77]
noncomputable def b67o1 : Code := ((kid ((subAt c67 [0, 1, 0, 1, 1, 1, 1]).getD .skip) 0).getD .skip)
noncomputable def kx67o1 : Exit → List Nat | .ret => [2] | .exit 2 => [6] | _ => []
noncomputable def b67o0 : Code := ((kid ((subAt c67 [0, 1, 0, 1, 1]).getD .skip) 0).getD .skip)
noncomputable def kx67o0 : Exit → List Nat | .ret => [2] | .exit 0 => [0, 3] | _ => []
noncomputable def Li67o1 (N0 N1 : Nat) : Loops Try.prog := []
noncomputable def ls67o1 (N0 N1 : Nat) : LSumm Try.prog := loopSumm mixed env67 200 (Li67o1 N0 N1) b67o1 (Loops.fit_nil) [6, 25, 26, 27] kx67o1 (Nat.succ N1)
noncomputable def ln67o1 {β : Type} (N0 N1 : Nat) (n : Nat) (t : List AV) (h : Heap) (K : Exit → List AV → Heap → Option β) : Option β := loopN Try.prog env67 (Sh.nes [.rows (.int .i64)]) 200 (Li67o1 N0 N1) b67o1 [6, 25, 26, 27] kx67o1 n t h K
noncomputable def Li67o0 (N0 N1 : Nat) : Loops Try.prog := []
noncomputable def ls67o0 (N0 N1 : Nat) : LSumm Try.prog := loopSumm mixed env67 200 (Li67o0 N0 N1) b67o0 (Loops.fit_nil) [0, 3, 9, 10, 11] kx67o0 (Nat.succ N0)
noncomputable def ln67o0 {β : Type} (N0 N1 : Nat) (n : Nat) (t : List AV) (h : Heap) (K : Exit → List AV → Heap → Option β) : Option β := loopN Try.prog env67 (Sh.nes [.rows (.int .i64)]) 200 (Li67o0 N0 N1) b67o0 [0, 3, 9, 10, 11] kx67o0 n t h K
noncomputable def L67 (N0 N1 : Nat) : Loops Try.prog := [([0, 1, 0, 1, 1], ls67o0 N0 N1), ([0, 1, 0, 1, 1, 1, 1], ls67o1 N0 N1)]
theorem L67_fit (N0 N1 : Nat) : (L67 N0 N1).fit c67 := Loops.fit_cons (by kernel_rfl) (Loops.fit_cons (by kernel_rfl) (Loops.fit_nil))
noncomputable def K67 : Exit → List AV → Heap → Option (List (Sh.T (.int .i64))) := fun e t h => outF (P := Try.prog) Try.f67 (Sh.nes [.rows (.int .i64)]) (.int .i64) e t h
noncomputable def rk67o0 (N0 N1 : Nat) : Exit → List AV → Heap → Option (List (Sh.T (.int .i64))) := (blkK 0 (seqK Try.prog env67 (Sh.nes [.rows (.int .i64)]) 197 (L67 N0 N1) [1, 1, 1] ((subAt c67 [1, 1, 1]).getD .skip) K67))
noncomputable def rk67o1 (N0 N1 : Nat) : Exit → List AV → Heap → Option (List (Sh.T (.int .i64))) := (blkK 2 (seqK Try.prog env67 (Sh.nes [.rows (.int .i64)]) 195 (L67 N0 N1) [1, 1, 1, 1, 1] ((subAt c67 [1, 1, 1, 1, 1]).getD .skip) K67))
noncomputable def t67o0 (N0 : Nat) (N1 : Nat) (x : Sh.Ts [(Sh.int IntKind.i64).rows]) (i8 : Int) (i9 : Int) : List AV := [AV.slc 0 0 (List.length x.fst) Cap.low, AV.any, AV.any, AV.val (Value.int IntKind.i64 i8), AV.any, AV.any, AV.any, AV.any, AV.any, AV.slc 0 0 (List.length x.fst) Cap.low, AV.val (Value.int IntKind.i64 (↑(List.length x.fst) : Int)), AV.val (Value.int IntKind.i64 i9), AV.any, AV.any, AV.any, AV.any, AV.any, AV.any, AV.any, AV.any, AV.any, AV.any, AV.any, AV.any, AV.any, AV.any, AV.any, AV.any, AV.any, AV.any, AV.any, AV.any, AV.any, AV.any, AV.any, AV.any]
noncomputable def h67o0 (N0 : Nat) (N1 : Nat) (x : Sh.Ts [(Sh.int IntKind.i64).rows]) (i8 : Int) (i9 : Int) : Heap := [Ent.live (Blk.mk (Cells.arrs (Sh.int IntKind.i64) x.fst) false none)]
noncomputable def tx67o0o0 (N0 : Nat) (N1 : Nat) (x : Sh.Ts [(Sh.int IntKind.i64).rows]) (w11 : Int) : List AV := [AV.slc 0 0 (List.length x.fst) Cap.low, AV.any, AV.any, AV.val (Value.int IntKind.i64 w11), AV.any, AV.any, AV.any, AV.any, AV.any, AV.any, AV.any, AV.any, AV.any, AV.any, AV.any, AV.any, AV.any, AV.any, AV.any, AV.any, AV.any, AV.any, AV.any, AV.any, AV.any, AV.any, AV.any, AV.any, AV.any, AV.any, AV.any, AV.any, AV.any, AV.any, AV.any, AV.any]
noncomputable def hx67o0o0 (N0 : Nat) (N1 : Nat) (x : Sh.Ts [(Sh.int IntKind.i64).rows]) (w11 : Int) : Heap := [Ent.live (Blk.mk (Cells.arrs (Sh.int IntKind.i64) x.fst) false none)]
noncomputable def law67o0 {β : Type} (N0 : Nat) (N1 : Nat) (x : ((List (List Int)) × Unit)) (k0 : Int → Option β) : Nat → Int → Int → Option β
  | 0, _, _ => none
  | n + 1, i8, i9 => (bif decide (i9 < (↑(List.length x.fst) : Int)) then (bif decide (0 ≤ i9) && decide (i9 < (↑(List.length x.fst) : Int)) then (Option.bind x.fst[i9.toNat]? fun v10 => (bif decide (IntKind.i64.wrap (i8 + (↑v10.length : Int)) < 0) then none else law67o0 N0 N1 x k0 n (IntKind.i64.wrap (i8 + (↑v10.length : Int))) (IntKind.i64.wrap (i9 + 1)))) else none) else k0 i8)
theorem leq67o0 {β : Type} (N0 : Nat) (N1 : Nat) (x : Sh.Ts [(Sh.int IntKind.i64).rows]) (K : Exit → List AV → Heap → Option β) : ∀ (n : Nat) (i8 : Int) (i9 : Int), ln67o0 N0 N1 n (t67o0 N0 N1 x i8 i9) (h67o0 N0 N1 x i8 i9) K = law67o0 N0 N1 x (fun w11 => K (Exit.exit 0) (tx67o0o0 N0 N1 x w11) (hx67o0o0 N0 N1 x w11)) n i8 i9
  | 0, _, _ => rfl
  | n + 1, i8, i9 => by
    have h : ln67o0 N0 N1 (n + 1) (t67o0 N0 N1 x i8 i9) (h67o0 N0 N1 x i8 i9) K = (bif decide (i9 < (↑(List.length x.fst) : Int)) then (bif decide (0 ≤ i9) && decide (i9 < (↑(List.length x.fst) : Int)) then (Option.bind (x.fst[0 + i9.toNat]?) fun v10 => (bif decide (IntKind.i64.wrap (i8 + (↑v10.length : Int)) < 0) then none else ln67o0 N0 N1 n (t67o0 N0 N1 x (IntKind.i64.wrap (i8 + (↑v10.length : Int))) (IntKind.i64.wrap (i9 + 1))) (h67o0 N0 N1 x (IntKind.i64.wrap (i8 + (↑v10.length : Int))) (IntKind.i64.wrap (i9 + 1))) K)) else none) else K (Exit.exit 0) (tx67o0o0 N0 N1 x i8) (hx67o0o0 N0 N1 x i8)) := by kernel_rfl
    rw [h]
    simp only [decide_self, decide_true, Nat.zero_add, Bool.and_true, Bool.true_and, cond_true, law67o0, leq67o0 N0 N1 x K n]
noncomputable def t67o1o1 (N0 : Nat) (N1 : Nat) (x : Sh.Ts [(Sh.int IntKind.i64).rows]) (i21 : Nat) (i22 : Int) (i23 : List (Sh.int IntKind.i64).T) : List AV := [AV.any, AV.any, AV.any, AV.any, AV.any, AV.any, AV.slc 1 0 i21 Cap.unk, AV.any, AV.any, AV.any, AV.any, AV.any, AV.any, AV.any, AV.any, AV.any, AV.any, AV.any, AV.any, AV.any, AV.any, AV.any, AV.any, AV.any, AV.any, AV.slc 0 0 (List.length x.fst) Cap.low, AV.val (Value.int IntKind.i64 (↑(List.length x.fst) : Int)), AV.val (Value.int IntKind.i64 i22), AV.any, AV.any, AV.any, AV.any, AV.any, AV.any, AV.any, AV.any]
noncomputable def h67o1o1 (N0 : Nat) (N1 : Nat) (x : Sh.Ts [(Sh.int IntKind.i64).rows]) (i21 : Nat) (i22 : Int) (i23 : List (Sh.int IntKind.i64).T) : Heap := [Ent.live (Blk.mk (Cells.arrs (Sh.int IntKind.i64) x.fst) false none), Ent.live (Blk.mk (Cells.arr (Sh.int IntKind.i64) i23) true (some 1))]
noncomputable def tx67o1o1o0 (N0 : Nat) (N1 : Nat) (x : Sh.Ts [(Sh.int IntKind.i64).rows]) (w25 : Nat) (w26 : List (Sh.int IntKind.i64).T) : List AV := [AV.any, AV.any, AV.any, AV.any, AV.any, AV.any, AV.slc 1 0 w25 Cap.unk, AV.any, AV.any, AV.any, AV.any, AV.any, AV.any, AV.any, AV.any, AV.any, AV.any, AV.any, AV.any, AV.any, AV.any, AV.any, AV.any, AV.any, AV.any, AV.any, AV.any, AV.any, AV.any, AV.any, AV.any, AV.any, AV.any, AV.any, AV.any, AV.any]
noncomputable def hx67o1o1o0 (N0 : Nat) (N1 : Nat) (x : Sh.Ts [(Sh.int IntKind.i64).rows]) (w25 : Nat) (w26 : List (Sh.int IntKind.i64).T) : Heap := [Ent.live (Blk.mk (Cells.arrs (Sh.int IntKind.i64) x.fst) false none), Ent.live (Blk.mk (Cells.arr (Sh.int IntKind.i64) w26) true (some 1))]
noncomputable def law67o1o1 {β : Type} (N0 : Nat) (N1 : Nat) (x : ((List (List Int)) × Unit)) (k0 : Nat → List Int → Option β) : Nat → Nat → Int → List Int → Option β
  | 0, _, _, _ => none
  | n + 1, i21, i22, i23 => (bif decide (i22 < (↑(List.length x.fst) : Int)) then (bif decide (0 ≤ i22) && decide (i22 < (↑(List.length x.fst) : Int)) then (Option.bind x.fst[i22.toNat]? fun v24 => (bif decide (i21 = i23.length) && (decide ((i21 + v24.length) * Try.prog.types[22].bytes ≤ 140737488355328) && decide (i21 + v24.length ≤ 9223372036854775807)) then law67o1o1 N0 N1 x k0 n (i21 + v24.length) (IntKind.i64.wrap (i22 + 1)) (i23.append v24) else none)) else none) else k0 i21 i23)
theorem leq67o1o1 {β : Type} (N0 : Nat) (N1 : Nat) (x : Sh.Ts [(Sh.int IntKind.i64).rows]) (K : Exit → List AV → Heap → Option β) : ∀ (n : Nat) (i21 : Nat) (i22 : Int) (i23 : List (Sh.int IntKind.i64).T), ln67o1 N0 N1 n (t67o1o1 N0 N1 x i21 i22 i23) (h67o1o1 N0 N1 x i21 i22 i23) K = law67o1o1 N0 N1 x (fun w25 w26 => K (Exit.exit 2) (tx67o1o1o0 N0 N1 x w25 w26) (hx67o1o1o0 N0 N1 x w25 w26)) n i21 i22 i23
  | 0, _, _, _ => rfl
  | n + 1, i21, i22, i23 => by
    have h : ln67o1 N0 N1 (n + 1) (t67o1o1 N0 N1 x i21 i22 i23) (h67o1o1 N0 N1 x i21 i22 i23) K = (bif decide (i22 < (↑(List.length x.fst) : Int)) then (bif decide (0 ≤ i22) && decide (i22 < (↑(List.length x.fst) : Int)) then (Option.bind (x.fst[0 + i22.toNat]?) fun v24 => (bif decide (i21 = i23.length) && (decide (v24.length = v24.length) && (decide ((i21 + v24.length) * Try.prog.types[22].bytes ≤ 140737488355328) && decide (i21 + v24.length ≤ 9223372036854775807))) then ln67o1 N0 N1 n (t67o1o1 N0 N1 x (i21 + v24.length) (IntKind.i64.wrap (i22 + 1)) (i23.append v24)) (h67o1o1 N0 N1 x (i21 + v24.length) (IntKind.i64.wrap (i22 + 1)) (i23.append v24)) K else none)) else none) else K (Exit.exit 2) (tx67o1o1o0 N0 N1 x i21 i23) (hx67o1o1o0 N0 N1 x i21 i23)) := by kernel_rfl
    rw [h]
    simp only [decide_self, decide_true, Nat.zero_add, Bool.and_true, Bool.true_and, cond_true, law67o1o1, leq67o1o1 N0 N1 x K n, leq67o0]
noncomputable def t67o1o2 (N0 : Nat) (N1 : Nat) (x : Sh.Ts [(Sh.int IntKind.i64).rows]) (i37 : Nat) (i38 : Int) (i39 : List (Sh.int IntKind.i64).T) : List AV := [AV.any, AV.any, AV.any, AV.any, AV.any, AV.any, AV.slc 1 0 i37 Cap.unk, AV.any, AV.any, AV.any, AV.any, AV.any, AV.any, AV.any, AV.any, AV.any, AV.any, AV.any, AV.any, AV.any, AV.any, AV.any, AV.any, AV.any, AV.any, AV.slc 0 0 (List.length x.fst) Cap.low, AV.val (Value.int IntKind.i64 (↑(List.length x.fst) : Int)), AV.val (Value.int IntKind.i64 i38), AV.any, AV.any, AV.any, AV.any, AV.any, AV.any, AV.any, AV.any]
noncomputable def h67o1o2 (N0 : Nat) (N1 : Nat) (x : Sh.Ts [(Sh.int IntKind.i64).rows]) (i37 : Nat) (i38 : Int) (i39 : List (Sh.int IntKind.i64).T) : Heap := [Ent.live (Blk.mk (Cells.arrs (Sh.int IntKind.i64) x.fst) false none), Ent.live (Blk.mk (Cells.arr (Sh.int IntKind.i64) i39) true (some 1))]
noncomputable def tx67o1o2o0 (N0 : Nat) (N1 : Nat) (x : Sh.Ts [(Sh.int IntKind.i64).rows]) (w41 : Nat) (w42 : List (Sh.int IntKind.i64).T) : List AV := [AV.any, AV.any, AV.any, AV.any, AV.any, AV.any, AV.slc 1 0 w41 Cap.unk, AV.any, AV.any, AV.any, AV.any, AV.any, AV.any, AV.any, AV.any, AV.any, AV.any, AV.any, AV.any, AV.any, AV.any, AV.any, AV.any, AV.any, AV.any, AV.any, AV.any, AV.any, AV.any, AV.any, AV.any, AV.any, AV.any, AV.any, AV.any, AV.any]
noncomputable def hx67o1o2o0 (N0 : Nat) (N1 : Nat) (x : Sh.Ts [(Sh.int IntKind.i64).rows]) (w41 : Nat) (w42 : List (Sh.int IntKind.i64).T) : Heap := [Ent.live (Blk.mk (Cells.arrs (Sh.int IntKind.i64) x.fst) false none), Ent.live (Blk.mk (Cells.arr (Sh.int IntKind.i64) w42) true (some 1))]
noncomputable def law67o1o2 {β : Type} (N0 : Nat) (N1 : Nat) (x : ((List (List Int)) × Unit)) (k0 : Nat → List Int → Option β) : Nat → Nat → Int → List Int → Option β
  | 0, _, _, _ => none
  | n + 1, i37, i38, i39 => (bif decide (i38 < (↑(List.length x.fst) : Int)) then (bif decide (0 ≤ i38) && decide (i38 < (↑(List.length x.fst) : Int)) then (Option.bind x.fst[i38.toNat]? fun v40 => (bif decide (i37 = i39.length) && (decide ((i37 + v40.length) * Try.prog.types[22].bytes ≤ 140737488355328) && decide (i37 + v40.length ≤ 9223372036854775807)) then law67o1o2 N0 N1 x k0 n (i37 + v40.length) (IntKind.i64.wrap (i38 + 1)) (i39.append v40) else none)) else none) else k0 i37 i39)
theorem leq67o1o2 {β : Type} (N0 : Nat) (N1 : Nat) (x : Sh.Ts [(Sh.int IntKind.i64).rows]) (K : Exit → List AV → Heap → Option β) : ∀ (n : Nat) (i37 : Nat) (i38 : Int) (i39 : List (Sh.int IntKind.i64).T), ln67o1 N0 N1 n (t67o1o2 N0 N1 x i37 i38 i39) (h67o1o2 N0 N1 x i37 i38 i39) K = law67o1o2 N0 N1 x (fun w41 w42 => K (Exit.exit 2) (tx67o1o2o0 N0 N1 x w41 w42) (hx67o1o2o0 N0 N1 x w41 w42)) n i37 i38 i39
  | 0, _, _, _ => rfl
  | n + 1, i37, i38, i39 => by
    have h : ln67o1 N0 N1 (n + 1) (t67o1o2 N0 N1 x i37 i38 i39) (h67o1o2 N0 N1 x i37 i38 i39) K = (bif decide (i38 < (↑(List.length x.fst) : Int)) then (bif decide (0 ≤ i38) && decide (i38 < (↑(List.length x.fst) : Int)) then (Option.bind (x.fst[0 + i38.toNat]?) fun v40 => (bif decide (i37 = i39.length) && (decide (v40.length = v40.length) && (decide ((i37 + v40.length) * Try.prog.types[22].bytes ≤ 140737488355328) && decide (i37 + v40.length ≤ 9223372036854775807))) then ln67o1 N0 N1 n (t67o1o2 N0 N1 x (i37 + v40.length) (IntKind.i64.wrap (i38 + 1)) (i39.append v40)) (h67o1o2 N0 N1 x (i37 + v40.length) (IntKind.i64.wrap (i38 + 1)) (i39.append v40)) K else none)) else none) else K (Exit.exit 2) (tx67o1o2o0 N0 N1 x i37 i39) (hx67o1o2o0 N0 N1 x i37 i39)) := by kernel_rfl
    rw [h]
    simp only [decide_self, decide_true, Nat.zero_add, Bool.and_true, Bool.true_and, cond_true, law67o1o2, leq67o1o2 N0 N1 x K n, leq67o0, leq67o1o1]
noncomputable def t67o1o3 (N0 : Nat) (N1 : Nat) (x : Sh.Ts [(Sh.int IntKind.i64).rows]) (i53 : Nat) (i54 : Int) (i55 : List (Sh.int IntKind.i64).T) : List AV := [AV.any, AV.any, AV.any, AV.any, AV.any, AV.any, AV.slc 1 0 i53 Cap.unk, AV.any, AV.any, AV.any, AV.any, AV.any, AV.any, AV.any, AV.any, AV.any, AV.any, AV.any, AV.any, AV.any, AV.any, AV.any, AV.any, AV.any, AV.any, AV.slc 0 0 (List.length x.fst) Cap.low, AV.val (Value.int IntKind.i64 (↑(List.length x.fst) : Int)), AV.val (Value.int IntKind.i64 i54), AV.any, AV.any, AV.any, AV.any, AV.any, AV.any, AV.any, AV.any]
noncomputable def h67o1o3 (N0 : Nat) (N1 : Nat) (x : Sh.Ts [(Sh.int IntKind.i64).rows]) (i53 : Nat) (i54 : Int) (i55 : List (Sh.int IntKind.i64).T) : Heap := [Ent.live (Blk.mk (Cells.arrs (Sh.int IntKind.i64) x.fst) false none), Ent.live (Blk.mk (Cells.arr (Sh.int IntKind.i64) i55) true (some 1))]
noncomputable def tx67o1o3o0 (N0 : Nat) (N1 : Nat) (x : Sh.Ts [(Sh.int IntKind.i64).rows]) (w57 : Nat) (w58 : List (Sh.int IntKind.i64).T) : List AV := [AV.any, AV.any, AV.any, AV.any, AV.any, AV.any, AV.slc 1 0 w57 Cap.unk, AV.any, AV.any, AV.any, AV.any, AV.any, AV.any, AV.any, AV.any, AV.any, AV.any, AV.any, AV.any, AV.any, AV.any, AV.any, AV.any, AV.any, AV.any, AV.any, AV.any, AV.any, AV.any, AV.any, AV.any, AV.any, AV.any, AV.any, AV.any, AV.any]
noncomputable def hx67o1o3o0 (N0 : Nat) (N1 : Nat) (x : Sh.Ts [(Sh.int IntKind.i64).rows]) (w57 : Nat) (w58 : List (Sh.int IntKind.i64).T) : Heap := [Ent.live (Blk.mk (Cells.arrs (Sh.int IntKind.i64) x.fst) false none), Ent.live (Blk.mk (Cells.arr (Sh.int IntKind.i64) w58) true (some 1))]
noncomputable def law67o1o3 {β : Type} (N0 : Nat) (N1 : Nat) (x : ((List (List Int)) × Unit)) (k0 : Nat → List Int → Option β) : Nat → Nat → Int → List Int → Option β
  | 0, _, _, _ => none
  | n + 1, i53, i54, i55 => (bif decide (i54 < (↑(List.length x.fst) : Int)) then (bif decide (0 ≤ i54) && decide (i54 < (↑(List.length x.fst) : Int)) then (Option.bind x.fst[i54.toNat]? fun v56 => (bif decide (i53 = i55.length) && (decide ((i53 + v56.length) * Try.prog.types[22].bytes ≤ 140737488355328) && decide (i53 + v56.length ≤ 9223372036854775807)) then law67o1o3 N0 N1 x k0 n (i53 + v56.length) (IntKind.i64.wrap (i54 + 1)) (i55.append v56) else none)) else none) else k0 i53 i55)
theorem leq67o1o3 {β : Type} (N0 : Nat) (N1 : Nat) (x : Sh.Ts [(Sh.int IntKind.i64).rows]) (K : Exit → List AV → Heap → Option β) : ∀ (n : Nat) (i53 : Nat) (i54 : Int) (i55 : List (Sh.int IntKind.i64).T), ln67o1 N0 N1 n (t67o1o3 N0 N1 x i53 i54 i55) (h67o1o3 N0 N1 x i53 i54 i55) K = law67o1o3 N0 N1 x (fun w57 w58 => K (Exit.exit 2) (tx67o1o3o0 N0 N1 x w57 w58) (hx67o1o3o0 N0 N1 x w57 w58)) n i53 i54 i55
  | 0, _, _, _ => rfl
  | n + 1, i53, i54, i55 => by
    have h : ln67o1 N0 N1 (n + 1) (t67o1o3 N0 N1 x i53 i54 i55) (h67o1o3 N0 N1 x i53 i54 i55) K = (bif decide (i54 < (↑(List.length x.fst) : Int)) then (bif decide (0 ≤ i54) && decide (i54 < (↑(List.length x.fst) : Int)) then (Option.bind (x.fst[0 + i54.toNat]?) fun v56 => (bif decide (i53 = i55.length) && (decide (v56.length = v56.length) && (decide ((i53 + v56.length) * Try.prog.types[22].bytes ≤ 140737488355328) && decide (i53 + v56.length ≤ 9223372036854775807))) then ln67o1 N0 N1 n (t67o1o3 N0 N1 x (i53 + v56.length) (IntKind.i64.wrap (i54 + 1)) (i55.append v56)) (h67o1o3 N0 N1 x (i53 + v56.length) (IntKind.i64.wrap (i54 + 1)) (i55.append v56)) K else none)) else none) else K (Exit.exit 2) (tx67o1o3o0 N0 N1 x i53 i55) (hx67o1o3o0 N0 N1 x i53 i55)) := by kernel_rfl
    rw [h]
    simp only [decide_self, decide_true, Nat.zero_add, Bool.and_true, Bool.true_and, cond_true, law67o1o3, leq67o1o3 N0 N1 x K n, leq67o0, leq67o1o1, leq67o1o2]
theorem rest67o1o1o0 (N0 : Nat) (N1 : Nat) (x : Sh.Ts [(Sh.int IntKind.i64).rows]) (w27 : Nat) (w28 : List (Sh.int IntKind.i64).T) : rk67o1 N0 N1 (Exit.exit 2) (tx67o1o1o0 N0 N1 x w27 w28) (hx67o1o1o0 N0 N1 x w27 w28) = (bif decide (w27 = w28.length) then some w28 else none) := by kernel_rfl
theorem rest67o1o2o0 (N0 : Nat) (N1 : Nat) (x : Sh.Ts [(Sh.int IntKind.i64).rows]) (w43 : Nat) (w44 : List (Sh.int IntKind.i64).T) : rk67o1 N0 N1 (Exit.exit 2) (tx67o1o2o0 N0 N1 x w43 w44) (hx67o1o2o0 N0 N1 x w43 w44) = (bif decide (w43 = w44.length) then some w44 else none) := by kernel_rfl
theorem rest67o0o0 (N0 : Nat) (N1 : Nat) (x : Sh.Ts [(Sh.int IntKind.i64).rows]) (w12 : Int) : rk67o0 N0 N1 (Exit.exit 0) (tx67o0o0 N0 N1 x w12) (hx67o0o0 N0 N1 x w12) = (bif decide (w12 < 0) then none else (bif decide (IntKind.i64.wrap (w12 - IntKind.i64.wrap ((↑0 : Int) - (↑0 : Int))) > 0) then (bif decide (0 < IntKind.i64.wrap (w12 - IntKind.i64.wrap ((↑0 : Int) - (↑0 : Int)))) && (decide ((IntKind.i64.wrap (w12 - IntKind.i64.wrap ((↑0 : Int) - (↑0 : Int)))).toNat * Try.prog.types[22].bytes ≤ 140737488355328) && decide ((IntKind.i64.wrap (w12 - IntKind.i64.wrap ((↑0 : Int) - (↑0 : Int)))).toNat ≤ 9223372036854775807)) then (bif decide (0 < (↑(List.length x.fst) : Int)) then (bif decide (0 ≤ 0) && decide (0 < (↑(List.length x.fst) : Int)) then (Option.bind (x.fst[Int.toNat 0]?) fun v13 => (bif decide (((↑0 : Int).toNat + v13.length) * Try.prog.types[22].bytes ≤ 140737488355328) && decide ((↑0 : Int).toNat + v13.length ≤ 9223372036854775807) then (law67o1o1 N0 N1 x (fun w27 w28 => (bif decide (w27 = w28.length) then some w28 else none)) N1 ((↑0 : Int).toNat + v13.length) (IntKind.i64.wrap (0 + 1)) ([].append v13)) else none)) else none) else none) else none) else (bif decide (0 < (↑(List.length x.fst) : Int)) then (bif decide (0 ≤ 0) && decide (0 < (↑(List.length x.fst) : Int)) then (Option.bind (x.fst[Int.toNat 0]?) fun v29 => (bif (decide (0 = 0) || decide (0 < v29.length)) && (decide ((0 + v29.length) * Try.prog.types[22].bytes ≤ 140737488355328) && decide (0 + v29.length ≤ 9223372036854775807)) then (law67o1o2 N0 N1 x (fun w43 w44 => (bif decide (w43 = w44.length) then some w44 else none)) N1 (0 + v29.length) (IntKind.i64.wrap (0 + 1)) ([].append v29)) else none)) else none) else some []))) := by
  have h : rk67o0 N0 N1 (Exit.exit 0) (tx67o0o0 N0 N1 x w12) (hx67o0o0 N0 N1 x w12) = (bif decide (w12 < 0) then none else (bif decide (IntKind.i64.wrap (w12 - IntKind.i64.wrap ((↑0 : Int) - (↑0 : Int))) > 0) then (bif decide (0 < IntKind.i64.wrap (w12 - IntKind.i64.wrap ((↑0 : Int) - (↑0 : Int)))) && (decide ((IntKind.i64.wrap (w12 - IntKind.i64.wrap ((↑0 : Int) - (↑0 : Int)))).toNat * Try.prog.types[22].bytes ≤ 140737488355328) && decide ((IntKind.i64.wrap (w12 - IntKind.i64.wrap ((↑0 : Int) - (↑0 : Int)))).toNat ≤ 9223372036854775807)) then (bif decide (0 < (↑(List.length x.fst) : Int)) then (bif decide (0 ≤ 0) && decide (0 < (↑(List.length x.fst) : Int)) then (Option.bind (x.fst[0 + Int.toNat 0]?) fun v13 => (bif decide (v13.length = v13.length) && (decide (((↑0 : Int).toNat + v13.length) * Try.prog.types[22].bytes ≤ 140737488355328) && decide ((↑0 : Int).toNat + v13.length ≤ 9223372036854775807)) then (ln67o1 N0 N1 N1 (t67o1o1 N0 N1 x ((↑0 : Int).toNat + v13.length) (IntKind.i64.wrap (0 + 1)) ([].append v13)) (h67o1o1 N0 N1 x ((↑0 : Int).toNat + v13.length) (IntKind.i64.wrap (0 + 1)) ([].append v13)) (rk67o1 N0 N1)) else none)) else none) else none) else none) else (bif decide (0 < (↑(List.length x.fst) : Int)) then (bif decide (0 ≤ 0) && decide (0 < (↑(List.length x.fst) : Int)) then (Option.bind (x.fst[0 + Int.toNat 0]?) fun v29 => (bif decide (v29.length = v29.length) && ((decide (0 = 0) || decide (0 < v29.length)) && (decide ((0 + v29.length) * Try.prog.types[22].bytes ≤ 140737488355328) && decide (0 + v29.length ≤ 9223372036854775807))) then (ln67o1 N0 N1 N1 (t67o1o2 N0 N1 x (0 + v29.length) (IntKind.i64.wrap (0 + 1)) ([].append v29)) (h67o1o2 N0 N1 x (0 + v29.length) (IntKind.i64.wrap (0 + 1)) ([].append v29)) (rk67o1 N0 N1)) else none)) else none) else some []))) := by kernel_rfl
  rw [h]
  simp only [decide_self, decide_true, Nat.zero_add, Bool.and_true, Bool.true_and, cond_true, leq67o0, leq67o1o1, leq67o1o2, leq67o1o3, rest67o1o1o0, rest67o1o2o0]
theorem rest67o1o3o0 (N0 : Nat) (N1 : Nat) (x : Sh.Ts [(Sh.int IntKind.i64).rows]) (w59 : Nat) (w60 : List (Sh.int IntKind.i64).T) : rk67o1 N0 N1 (Exit.exit 2) (tx67o1o3o0 N0 N1 x w59 w60) (hx67o1o3o0 N0 N1 x w59 w60) = (bif decide (w59 = w60.length) then some w60 else none) := by kernel_rfl
noncomputable def law67 (N0 : Nat) (N1 : Nat) (x : ((List (List Int)) × Unit)) : Option (List Int) := (bif decide (0 < (↑(List.length x.fst) : Int)) then (bif decide (0 ≤ 0) && decide (0 < (↑(List.length x.fst) : Int)) then (Option.bind (x.fst[Int.toNat 0]?) fun v0 => (bif decide (IntKind.i64.wrap (0 + (↑v0.length : Int)) < 0) then none else (law67o0 N0 N1 x (fun w12 => (bif decide (w12 < 0) then none else (bif decide (IntKind.i64.wrap (w12 - IntKind.i64.wrap ((↑0 : Int) - (↑0 : Int))) > 0) then (bif decide (0 < IntKind.i64.wrap (w12 - IntKind.i64.wrap ((↑0 : Int) - (↑0 : Int)))) && (decide ((IntKind.i64.wrap (w12 - IntKind.i64.wrap ((↑0 : Int) - (↑0 : Int)))).toNat * Try.prog.types[22].bytes ≤ 140737488355328) && decide ((IntKind.i64.wrap (w12 - IntKind.i64.wrap ((↑0 : Int) - (↑0 : Int)))).toNat ≤ 9223372036854775807)) then (bif decide (0 < (↑(List.length x.fst) : Int)) then (bif decide (0 ≤ 0) && decide (0 < (↑(List.length x.fst) : Int)) then (Option.bind (x.fst[Int.toNat 0]?) fun v13 => (bif decide (((↑0 : Int).toNat + v13.length) * Try.prog.types[22].bytes ≤ 140737488355328) && decide ((↑0 : Int).toNat + v13.length ≤ 9223372036854775807) then (law67o1o1 N0 N1 x (fun w27 w28 => (bif decide (w27 = w28.length) then some w28 else none)) N1 ((↑0 : Int).toNat + v13.length) (IntKind.i64.wrap (0 + 1)) ([].append v13)) else none)) else none) else none) else none) else (bif decide (0 < (↑(List.length x.fst) : Int)) then (bif decide (0 ≤ 0) && decide (0 < (↑(List.length x.fst) : Int)) then (Option.bind (x.fst[Int.toNat 0]?) fun v29 => (bif (decide (0 = 0) || decide (0 < v29.length)) && (decide ((0 + v29.length) * Try.prog.types[22].bytes ≤ 140737488355328) && decide (0 + v29.length ≤ 9223372036854775807)) then (law67o1o2 N0 N1 x (fun w43 w44 => (bif decide (w43 = w44.length) then some w44 else none)) N1 (0 + v29.length) (IntKind.i64.wrap (0 + 1)) ([].append v29)) else none)) else none) else some [])))) N0 (IntKind.i64.wrap (0 + (↑v0.length : Int))) (IntKind.i64.wrap (0 + 1))))) else none) else (bif decide (0 < (↑(List.length x.fst) : Int)) then (bif decide (0 ≤ 0) && decide (0 < (↑(List.length x.fst) : Int)) then (Option.bind (x.fst[Int.toNat 0]?) fun v45 => (bif (decide (0 = 0) || decide (0 < v45.length)) && (decide ((0 + v45.length) * Try.prog.types[22].bytes ≤ 140737488355328) && decide (0 + v45.length ≤ 9223372036854775807)) then (law67o1o3 N0 N1 x (fun w59 w60 => (bif decide (w59 = w60.length) then some w60 else none)) N1 (0 + v45.length) (IntKind.i64.wrap (0 + 1)) ([].append v45)) else none)) else none) else some []))
theorem eq67 (N0 : Nat) (N1 : Nat) (x : Sh.Ts [(Sh.int IntKind.i64).rows]) : codeLawF Try.prog env67 200 (L67 N0 N1) Try.f67 c67 [.rows (.int .i64)] (.int .i64) x = law67 N0 N1 x := by
  have h : codeLawF Try.prog env67 200 (L67 N0 N1) Try.f67 c67 [.rows (.int .i64)] (.int .i64) x = (bif decide (0 < (↑(List.length x.fst) : Int)) then (bif decide (0 ≤ 0) && decide (0 < (↑(List.length x.fst) : Int)) then (Option.bind (x.fst[0 + Int.toNat 0]?) fun v0 => (bif decide (IntKind.i64.wrap (0 + (↑v0.length : Int)) < 0) then none else (ln67o0 N0 N1 N0 (t67o0 N0 N1 x (IntKind.i64.wrap (0 + (↑v0.length : Int))) (IntKind.i64.wrap (0 + 1))) (h67o0 N0 N1 x (IntKind.i64.wrap (0 + (↑v0.length : Int))) (IntKind.i64.wrap (0 + 1))) (rk67o0 N0 N1)))) else none) else (bif decide (0 < (↑(List.length x.fst) : Int)) then (bif decide (0 ≤ 0) && decide (0 < (↑(List.length x.fst) : Int)) then (Option.bind (x.fst[0 + Int.toNat 0]?) fun v45 => (bif decide (v45.length = v45.length) && ((decide (0 = 0) || decide (0 < v45.length)) && (decide ((0 + v45.length) * Try.prog.types[22].bytes ≤ 140737488355328) && decide (0 + v45.length ≤ 9223372036854775807))) then (ln67o1 N0 N1 N1 (t67o1o3 N0 N1 x (0 + v45.length) (IntKind.i64.wrap (0 + 1)) ([].append v45)) (h67o1o3 N0 N1 x (0 + v45.length) (IntKind.i64.wrap (0 + 1)) ([].append v45)) (rk67o1 N0 N1)) else none)) else none) else some [])) := by kernel_rfl
  rw [h]
  unfold law67
  simp only [decide_self, decide_true, Nat.zero_add, Bool.and_true, Bool.true_and, cond_true, leq67o0, leq67o1o1, leq67o1o2, leq67o1o3, rest67o1o1o0, rest67o1o2o0, rest67o0o0, rest67o1o3o0]
noncomputable def fn67 (x : ((List (List Int)) × Unit)) : Option (List (Int)) := law67 (10 ^ 30) (10 ^ 30) x
theorem reads67 : ReadsF Try.prog 67 [.rows (.int .i64)] (.int .i64) fn67 := (ReadsF.of_code mixed (fn := Try.f67) (c := c67) Try.func67 (by kernel_rfl) (by kernel_rfl) env67 200 (L67_fit _ _)).to (eq67 _ _)
noncomputable def s67 : Summ Try.prog := reads67.summ
/- slices.Min[[]chicane/api.Fx,chicane/api.Fx] -/
noncomputable def c68 : Code := (Try.f68.body.getD .skip)
noncomputable def env68 : Env Try.prog := []
noncomputable def b68o0 : Code := ((kid ((subAt c68 [0, 1, 0, 1, 1, 1]).getD .skip) 0).getD .skip)
noncomputable def kx68o0 : Exit → List Nat | .ret => [2] | .exit 0 => [3] | _ => []
noncomputable def Li68o0 (N0 : Nat) : Loops Try.prog := []
noncomputable def ls68o0 (N0 : Nat) : LSumm Try.prog := loopSumm mixed env68 200 (Li68o0 N0) b68o0 (Loops.fit_nil) [0, 3, 4] kx68o0 (N0)
noncomputable def ln68o0 {β : Type} (N0 : Nat) (n : Nat) (t : List AV) (h : Heap) (K : Exit → List AV → Heap → Option β) : Option β := loopN Try.prog env68 (Sh.nes [.sl (.int .i64)]) 200 (Li68o0 N0) b68o0 [0, 3, 4] kx68o0 n t h K
noncomputable def L68 (N0 : Nat) : Loops Try.prog := [([0, 1, 0, 1, 1, 1], ls68o0 N0)]
theorem L68_fit (N0 : Nat) : (L68 N0).fit c68 := Loops.fit_cons (by kernel_rfl) (Loops.fit_nil)
noncomputable def K68 : Exit → List AV → Heap → Option (Sh.Ts [.int .i64]) := fun e t h => outK (P := Try.prog) Try.f68 [.int .i64] e t h
noncomputable def rk68o0 (N0 : Nat) : Exit → List AV → Heap → Option (Sh.Ts [.int .i64]) := (blkK 0 (seqK Try.prog env68 (Sh.nes [.sl (.int .i64)]) 196 (L68 N0) [1, 1, 1, 1] ((subAt c68 [1, 1, 1, 1]).getD .skip) K68))
noncomputable def t68o0 (N0 : Nat) (x : Sh.Ts [(Sh.int IntKind.i64).sl]) (i6 : (Sh.int IntKind.i64).T) (i7 : Int) : List AV := [AV.slc 0 0 (List.length x.fst) Cap.low, AV.any, AV.any, AV.val (Value.int IntKind.i64 i6), AV.val (Value.int IntKind.i64 i7), AV.any, AV.any, AV.any, AV.any, AV.any, AV.any, AV.any, AV.any, AV.any, AV.any, AV.any, AV.any, AV.any, AV.any, AV.any, AV.any, AV.any, AV.any, AV.any, AV.any]
noncomputable def h68o0 (N0 : Nat) (x : Sh.Ts [(Sh.int IntKind.i64).sl]) (i6 : (Sh.int IntKind.i64).T) (i7 : Int) : Heap := [Ent.live (Blk.mk (Cells.arr (Sh.int IntKind.i64) x.fst) false none)]
noncomputable def tx68o0o0 (N0 : Nat) (x : Sh.Ts [(Sh.int IntKind.i64).sl]) (w9 : (Sh.int IntKind.i64).T) : List AV := [AV.any, AV.any, AV.any, AV.val (Value.int IntKind.i64 w9), AV.any, AV.any, AV.any, AV.any, AV.any, AV.any, AV.any, AV.any, AV.any, AV.any, AV.any, AV.any, AV.any, AV.any, AV.any, AV.any, AV.any, AV.any, AV.any, AV.any, AV.any]
noncomputable def hx68o0o0 (N0 : Nat) (x : Sh.Ts [(Sh.int IntKind.i64).sl]) (w9 : (Sh.int IntKind.i64).T) : Heap := [Ent.live (Blk.mk (Cells.arr (Sh.int IntKind.i64) x.fst) false none)]
noncomputable def law68o0 {β : Type} (N0 : Nat) (x : ((List Int) × Unit)) (k0 : Int → Option β) : Nat → Int → Int → Option β
  | 0, _, _ => none
  | n + 1, i6, i7 => (bif decide (i7 < (↑(List.length x.fst) : Int)) then (bif decide (0 ≤ i7) && decide (i7 < (↑(List.length x.fst) : Int)) then (Option.bind x.fst[i7.toNat]? fun v8 => law68o0 N0 x k0 n (if v8 < i6 then v8 else i6) (IntKind.i64.wrap (i7 + 1))) else none) else k0 i6)
theorem leq68o0 {β : Type} (N0 : Nat) (x : Sh.Ts [(Sh.int IntKind.i64).sl]) (K : Exit → List AV → Heap → Option β) : ∀ (n : Nat) (i6 : (Sh.int IntKind.i64).T) (i7 : Int), ln68o0 N0 n (t68o0 N0 x i6 i7) (h68o0 N0 x i6 i7) K = law68o0 N0 x (fun w9 => K (Exit.exit 0) (tx68o0o0 N0 x w9) (hx68o0o0 N0 x w9)) n i6 i7
  | 0, _, _ => rfl
  | n + 1, i6, i7 => by
    have h : ln68o0 N0 (n + 1) (t68o0 N0 x i6 i7) (h68o0 N0 x i6 i7) K = (bif decide (i7 < (↑(List.length x.fst) : Int)) then (bif decide (0 ≤ i7) && decide (i7 < (↑(List.length x.fst) : Int)) then (Option.bind (x.fst[0 + i7.toNat]?) fun v8 => ln68o0 N0 n (t68o0 N0 x (if v8 < i6 then v8 else i6) (IntKind.i64.wrap (i7 + 1))) (h68o0 N0 x (if v8 < i6 then v8 else i6) (IntKind.i64.wrap (i7 + 1))) K) else none) else K (Exit.exit 0) (tx68o0o0 N0 x i6) (hx68o0o0 N0 x i6)) := by kernel_rfl
    rw [h]
    simp only [decide_self, decide_true, Nat.zero_add, Bool.and_true, Bool.true_and, cond_true, law68o0, leq68o0 N0 x K n]
theorem rest68o0o0 (N0 : Nat) (x : Sh.Ts [(Sh.int IntKind.i64).sl]) (w10 : (Sh.int IntKind.i64).T) : rk68o0 N0 (Exit.exit 0) (tx68o0o0 N0 x w10) (hx68o0o0 N0 x w10) = some ((w10, ())) := by kernel_rfl
noncomputable def law68 (N0 : Nat) (x : ((List Int) × Unit)) : Option ((Int × Unit)) := (bif decide ((↑(List.length x.fst) : Int) < 1) then none else (bif decide (0 ≤ 0) && decide (0 < (↑(List.length x.fst) : Int)) then (Option.bind (x.fst[Int.toNat 0]?) fun v0 => (law68o0 N0 x (fun w10 => some ((w10, ()))) N0 v0 1)) else none))
theorem eq68 (N0 : Nat) (x : Sh.Ts [(Sh.int IntKind.i64).sl]) : codeLaw Try.prog env68 200 (L68 N0) Try.f68 c68 [.sl (.int .i64)] [.int .i64] x = law68 N0 x := by
  have h : codeLaw Try.prog env68 200 (L68 N0) Try.f68 c68 [.sl (.int .i64)] [.int .i64] x = (bif decide ((↑(List.length x.fst) : Int) < 1) then none else (bif decide (0 ≤ 0) && decide (0 < (↑(List.length x.fst) : Int)) then (Option.bind (x.fst[0 + Int.toNat 0]?) fun v0 => (ln68o0 N0 N0 (t68o0 N0 x v0 1) (h68o0 N0 x v0 1) (rk68o0 N0))) else none)) := by kernel_rfl
  rw [h]
  unfold law68
  simp only [decide_self, decide_true, Nat.zero_add, Bool.and_true, Bool.true_and, cond_true, leq68o0, rest68o0o0]
noncomputable def fn68 (x : ((List Int) × Unit)) : Option ((Int × Unit)) := law68 (10 ^ 30) x
theorem reads68 : Reads Try.prog 68 [.sl (.int .i64)] [.int .i64] fn68 := (Reads.of_code mixed (fn := Try.f68) (c := c68) Try.func68 (by kernel_rfl) (by kernel_rfl) env68 200 (L68_fit _) (by kernel_rfl)).to (eq68 _)
noncomputable def s68 : Summ Try.prog := reads68.summ
/- slices.Max[[]chicane/api.Fx,chicane/api.Fx] -/
noncomputable def c69 : Code := (Try.f69.body.getD .skip)
noncomputable def env69 : Env Try.prog := []
noncomputable def b69o0 : Code := ((kid ((subAt c69 [0, 1, 0, 1, 1, 1]).getD .skip) 0).getD .skip)
noncomputable def kx69o0 : Exit → List Nat | .ret => [2] | .exit 0 => [3] | _ => []
noncomputable def Li69o0 (N0 : Nat) : Loops Try.prog := []
noncomputable def ls69o0 (N0 : Nat) : LSumm Try.prog := loopSumm mixed env69 200 (Li69o0 N0) b69o0 (Loops.fit_nil) [0, 3, 4] kx69o0 (N0)
noncomputable def ln69o0 {β : Type} (N0 : Nat) (n : Nat) (t : List AV) (h : Heap) (K : Exit → List AV → Heap → Option β) : Option β := loopN Try.prog env69 (Sh.nes [.sl (.int .i64)]) 200 (Li69o0 N0) b69o0 [0, 3, 4] kx69o0 n t h K
noncomputable def L69 (N0 : Nat) : Loops Try.prog := [([0, 1, 0, 1, 1, 1], ls69o0 N0)]
theorem L69_fit (N0 : Nat) : (L69 N0).fit c69 := Loops.fit_cons (by kernel_rfl) (Loops.fit_nil)
noncomputable def K69 : Exit → List AV → Heap → Option (Sh.Ts [.int .i64]) := fun e t h => outK (P := Try.prog) Try.f69 [.int .i64] e t h
noncomputable def rk69o0 (N0 : Nat) : Exit → List AV → Heap → Option (Sh.Ts [.int .i64]) := (blkK 0 (seqK Try.prog env69 (Sh.nes [.sl (.int .i64)]) 196 (L69 N0) [1, 1, 1, 1] ((subAt c69 [1, 1, 1, 1]).getD .skip) K69))
noncomputable def t69o0 (N0 : Nat) (x : Sh.Ts [(Sh.int IntKind.i64).sl]) (i6 : (Sh.int IntKind.i64).T) (i7 : Int) : List AV := [AV.slc 0 0 (List.length x.fst) Cap.low, AV.any, AV.any, AV.val (Value.int IntKind.i64 i6), AV.val (Value.int IntKind.i64 i7), AV.any, AV.any, AV.any, AV.any, AV.any, AV.any, AV.any, AV.any, AV.any, AV.any, AV.any, AV.any, AV.any, AV.any, AV.any, AV.any, AV.any, AV.any, AV.any, AV.any]
noncomputable def h69o0 (N0 : Nat) (x : Sh.Ts [(Sh.int IntKind.i64).sl]) (i6 : (Sh.int IntKind.i64).T) (i7 : Int) : Heap := [Ent.live (Blk.mk (Cells.arr (Sh.int IntKind.i64) x.fst) false none)]
noncomputable def tx69o0o0 (N0 : Nat) (x : Sh.Ts [(Sh.int IntKind.i64).sl]) (w9 : (Sh.int IntKind.i64).T) : List AV := [AV.any, AV.any, AV.any, AV.val (Value.int IntKind.i64 w9), AV.any, AV.any, AV.any, AV.any, AV.any, AV.any, AV.any, AV.any, AV.any, AV.any, AV.any, AV.any, AV.any, AV.any, AV.any, AV.any, AV.any, AV.any, AV.any, AV.any, AV.any]
noncomputable def hx69o0o0 (N0 : Nat) (x : Sh.Ts [(Sh.int IntKind.i64).sl]) (w9 : (Sh.int IntKind.i64).T) : Heap := [Ent.live (Blk.mk (Cells.arr (Sh.int IntKind.i64) x.fst) false none)]
noncomputable def law69o0 {β : Type} (N0 : Nat) (x : ((List Int) × Unit)) (k0 : Int → Option β) : Nat → Int → Int → Option β
  | 0, _, _ => none
  | n + 1, i6, i7 => (bif decide (i7 < (↑(List.length x.fst) : Int)) then (bif decide (0 ≤ i7) && decide (i7 < (↑(List.length x.fst) : Int)) then (Option.bind x.fst[i7.toNat]? fun v8 => law69o0 N0 x k0 n (if v8 > i6 then v8 else i6) (IntKind.i64.wrap (i7 + 1))) else none) else k0 i6)
theorem leq69o0 {β : Type} (N0 : Nat) (x : Sh.Ts [(Sh.int IntKind.i64).sl]) (K : Exit → List AV → Heap → Option β) : ∀ (n : Nat) (i6 : (Sh.int IntKind.i64).T) (i7 : Int), ln69o0 N0 n (t69o0 N0 x i6 i7) (h69o0 N0 x i6 i7) K = law69o0 N0 x (fun w9 => K (Exit.exit 0) (tx69o0o0 N0 x w9) (hx69o0o0 N0 x w9)) n i6 i7
  | 0, _, _ => rfl
  | n + 1, i6, i7 => by
    have h : ln69o0 N0 (n + 1) (t69o0 N0 x i6 i7) (h69o0 N0 x i6 i7) K = (bif decide (i7 < (↑(List.length x.fst) : Int)) then (bif decide (0 ≤ i7) && decide (i7 < (↑(List.length x.fst) : Int)) then (Option.bind (x.fst[0 + i7.toNat]?) fun v8 => ln69o0 N0 n (t69o0 N0 x (if v8 > i6 then v8 else i6) (IntKind.i64.wrap (i7 + 1))) (h69o0 N0 x (if v8 > i6 then v8 else i6) (IntKind.i64.wrap (i7 + 1))) K) else none) else K (Exit.exit 0) (tx69o0o0 N0 x i6) (hx69o0o0 N0 x i6)) := by kernel_rfl
    rw [h]
    simp only [decide_self, decide_true, Nat.zero_add, Bool.and_true, Bool.true_and, cond_true, law69o0, leq69o0 N0 x K n]
theorem rest69o0o0 (N0 : Nat) (x : Sh.Ts [(Sh.int IntKind.i64).sl]) (w10 : (Sh.int IntKind.i64).T) : rk69o0 N0 (Exit.exit 0) (tx69o0o0 N0 x w10) (hx69o0o0 N0 x w10) = some ((w10, ())) := by kernel_rfl
noncomputable def law69 (N0 : Nat) (x : ((List Int) × Unit)) : Option ((Int × Unit)) := (bif decide ((↑(List.length x.fst) : Int) < 1) then none else (bif decide (0 ≤ 0) && decide (0 < (↑(List.length x.fst) : Int)) then (Option.bind (x.fst[Int.toNat 0]?) fun v0 => (law69o0 N0 x (fun w10 => some ((w10, ()))) N0 v0 1)) else none))
theorem eq69 (N0 : Nat) (x : Sh.Ts [(Sh.int IntKind.i64).sl]) : codeLaw Try.prog env69 200 (L69 N0) Try.f69 c69 [.sl (.int .i64)] [.int .i64] x = law69 N0 x := by
  have h : codeLaw Try.prog env69 200 (L69 N0) Try.f69 c69 [.sl (.int .i64)] [.int .i64] x = (bif decide ((↑(List.length x.fst) : Int) < 1) then none else (bif decide (0 ≤ 0) && decide (0 < (↑(List.length x.fst) : Int)) then (Option.bind (x.fst[0 + Int.toNat 0]?) fun v0 => (ln69o0 N0 N0 (t69o0 N0 x v0 1) (h69o0 N0 x v0 1) (rk69o0 N0))) else none)) := by kernel_rfl
  rw [h]
  unfold law69
  simp only [decide_self, decide_true, Nat.zero_add, Bool.and_true, Bool.true_and, cond_true, leq69o0, rest69o0o0]
noncomputable def fn69 (x : ((List Int) × Unit)) : Option ((Int × Unit)) := law69 (10 ^ 30) x
theorem reads69 : Reads Try.prog 69 [.sl (.int .i64)] [.int .i64] fn69 := (Reads.of_code mixed (fn := Try.f69) (c := c69) Try.func69 (by kernel_rfl) (by kernel_rfl) env69 200 (L69_fit _) (by kernel_rfl)).to (eq69 _)
noncomputable def s69 : Summ Try.prog := reads69.summ
/- chicane/pane.Bounds -/
noncomputable def c52 : Code := (Try.f52.body.getD .skip)
noncomputable def env52 : Env Try.prog := [s51, s67, s68, s69]
noncomputable def L52 : Loops Try.prog := []
theorem L52_fit : (L52).fit c52 := Loops.fit_nil
noncomputable def law52 (x : (PaneT × Unit)) : Option ((Int × Int × Unit)) := (Option.bind (fn51 x) fun v0 => (bif v0.fst != 0 then some ((0, 0, ())) else (Option.bind (fn67 x.fst.snd.snd) fun v1 => (Option.bind (fn68 (v1, ())) fun v2 => (Option.bind (fn69 (v1, ())) fun v3 => some ((v2.fst, v3.fst, ())))))))
theorem eq52 (x : Sh.Ts [PaneSh]) : codeLaw Try.prog env52 200 (L52) Try.f52 c52 [PaneSh] [.int .i64, .int .i64] x = law52 x := by
  have h : codeLaw Try.prog env52 200 (L52) Try.f52 c52 [PaneSh] [.int .i64, .int .i64] x = (bif decide (List.length x.fst.fst = List.length x.fst.fst) && (decide (List.length x.fst.snd.fst = List.length x.fst.snd.fst) && (decide (List.length x.fst.snd.snd.fst = List.length x.fst.snd.snd.fst) && true)) && true then (Option.bind (fn51 x) fun v0 => (bif v0.fst != 0 then some ((0, 0, ())) else (bif decide (List.length x.fst.snd.snd.fst = List.length x.fst.snd.snd.fst) && true then (Option.bind (fn67 x.fst.snd.snd) fun v1 => (bif decide (v1.length = v1.length) && true then (Option.bind (fn68 (v1, ())) fun v2 => (bif decide (v1.length = v1.length) && true then (Option.bind (fn69 (v1, ())) fun v3 => some ((v2.fst, v3.fst, ()))) else none)) else none)) else none))) else none) := by kernel_rfl
  rw [h]
  unfold law52
  simp only [decide_self, decide_true, Nat.zero_add, Bool.and_true, Bool.true_and, cond_true]
noncomputable def fn52 (x : (PaneT × Unit)) : Option ((Int × Int × Unit)) := law52 x
theorem reads52 : Reads Try.prog 52 [PaneSh] [.int .i64, .int .i64] fn52 := (Reads.of_code mixed (fn := Try.f52) (c := c52) Try.func52 (by kernel_rfl) (by kernel_rfl) env52 200 (L52_fit) (by kernel_rfl)).to (eq52)
noncomputable def s52 : Summ Try.prog := reads52.summ
/- chicane/car.tyre -/
noncomputable def c34 : Code := (Try.f34.body.getD .skip)
noncomputable def env34 : Env Try.prog := [s51, s52, s31]
noncomputable def L34 : Loops Try.prog := []
theorem L34_fit : (L34).fit c34 := Loops.fit_nil
noncomputable def law34 (x : (PaneT × Unit)) : Option ((Int × Unit)) := (Option.bind (fn51 x) fun v0 => (bif v0.fst != 0 then some ((v0.fst, ())) else (Option.bind (fn52 x) fun v1 => (bif decide (0 ≤ 0) && decide (0 < (↑(List.length x.fst.fst) : Int)) then (Option.bind (x.fst.fst[Int.toNat 0]?) fun v2 => (bif decide (0 ≤ 0) && decide (0 < (↑(List.length x.fst.snd.fst) : Int)) then (Option.bind (x.fst.snd.fst[Int.toNat 0]?) fun v3 => (Option.bind (fn31 ([(if v1.fst < if v3 < v2 then v3 else v2 then v1.fst else if v3 < v2 then v3 else v2, 0, 18014398509481984, ()), (v1.snd.fst, 0, 17179869184, ())], ())) fun v4 => some ((v4.fst, ())))) else none)) else none))))
theorem eq34 (x : Sh.Ts [PaneSh]) : codeLaw Try.prog env34 200 (L34) Try.f34 c34 [PaneSh] [.int .i64] x = law34 x := by
  have h : codeLaw Try.prog env34 200 (L34) Try.f34 c34 [PaneSh] [.int .i64] x = (bif decide (List.length x.fst.fst = List.length x.fst.fst) && (decide (List.length x.fst.snd.fst = List.length x.fst.snd.fst) && (decide (List.length x.fst.snd.snd.fst = List.length x.fst.snd.snd.fst) && true)) && true then (Option.bind (fn51 x) fun v0 => (bif v0.fst != 0 then some ((v0.fst, ())) else (bif decide (List.length x.fst.fst = List.length x.fst.fst) && (decide (List.length x.fst.snd.fst = List.length x.fst.snd.fst) && (decide (List.length x.fst.snd.snd.fst = List.length x.fst.snd.snd.fst) && true)) && true then (Option.bind (fn52 x) fun v1 => (bif decide (0 ≤ 0) && decide (0 < (↑(List.length x.fst.fst) : Int)) then (Option.bind (x.fst.fst[0 + Int.toNat 0]?) fun v2 => (bif decide (0 ≤ 0) && decide (0 < (↑(List.length x.fst.snd.fst) : Int)) then (Option.bind (x.fst.snd.fst[0 + Int.toNat 0]?) fun v3 => (Option.bind (fn31 ([(if v1.fst < if v3 < v2 then v3 else v2 then v1.fst else if v3 < v2 then v3 else v2, 0, 18014398509481984, ()), (v1.snd.fst, 0, 17179869184, ())], ())) fun v4 => some ((v4.fst, ())))) else none)) else none)) else none))) else none) := by kernel_rfl
  rw [h]
  unfold law34
  simp only [decide_self, decide_true, Nat.zero_add, Bool.and_true, Bool.true_and, cond_true]
noncomputable def fn34 (x : (PaneT × Unit)) : Option ((Int × Unit)) := law34 x
theorem reads34 : Reads Try.prog 34 [PaneSh] [.int .i64] fn34 := (Reads.of_code mixed (fn := Try.f34) (c := c34) Try.func34 (by kernel_rfl) (by kernel_rfl) env34 200 (L34_fit) (by kernel_rfl)).to (eq34)
noncomputable def s34 : Summ Try.prog := reads34.summ
/- chicane/car.above -/
noncomputable def c54 : Code := (Try.f54.body.getD .skip)
noncomputable def env54 : Env Try.prog := []
noncomputable def L54 : Loops Try.prog := []
theorem L54_fit : (L54).fit c54 := Loops.fit_nil
noncomputable def law54 (x : (Int × Int × Unit)) : Option ((Int × Unit)) := (bif decide (x.fst ≤ x.snd.fst) then some ((41, ())) else some ((0, ())))
theorem eq54 (x : Sh.Ts [Sh.int IntKind.i64, Sh.int IntKind.i64]) : codeLaw Try.prog env54 200 (L54) Try.f54 c54 [.int .i64, .int .i64] [.int .i64] x = law54 x := by kernel_rfl
noncomputable def fn54 (x : (Int × Int × Unit)) : Option ((Int × Unit)) := law54 x
theorem reads54 : Reads Try.prog 54 [.int .i64, .int .i64] [.int .i64] fn54 := (Reads.of_code mixed (fn := Try.f54) (c := c54) Try.func54 (by kernel_rfl) (by kernel_rfl) env54 200 (L54_fit) (by kernel_rfl)).to (eq54)
noncomputable def s54 : Summ Try.prog := reads54.summ
/- chicane/car.first -/
noncomputable def c53 : Code := (Try.f53.body.getD .skip)
noncomputable def env53 : Env Try.prog := []
noncomputable def b53o0 : Code := ((kid ((subAt c53 [0, 1, 0, 1]).getD .skip) 0).getD .skip)
noncomputable def kx53o0 : Exit → List Nat | .ret => [2] | _ => []
noncomputable def Li53o0 (N0 : Nat) : Loops Try.prog := []
noncomputable def ls53o0 (N0 : Nat) : LSumm Try.prog := loopSumm mixed env53 200 (Li53o0 N0) b53o0 (Loops.fit_nil) [5, 6, 7] kx53o0 (N0)
noncomputable def ln53o0 {β : Type} (N0 : Nat) (n : Nat) (t : List AV) (h : Heap) (K : Exit → List AV → Heap → Option β) : Option β := loopN Try.prog env53 (Sh.nes [.sl (.int .i64)]) 200 (Li53o0 N0) b53o0 [5, 6, 7] kx53o0 n t h K
noncomputable def L53 (N0 : Nat) : Loops Try.prog := [([0, 1, 0, 1], ls53o0 N0)]
theorem L53_fit (N0 : Nat) : (L53 N0).fit c53 := Loops.fit_cons (by kernel_rfl) (Loops.fit_nil)
noncomputable def K53 : Exit → List AV → Heap → Option (Sh.Ts [.int .i64]) := fun e t h => outK (P := Try.prog) Try.f53 [.int .i64] e t h
noncomputable def rk53o0 (N0 : Nat) : Exit → List AV → Heap → Option (Sh.Ts [.int .i64]) := (blkK 0 (seqK Try.prog env53 (Sh.nes [.sl (.int .i64)]) 198 (L53 N0) [1, 1] ((subAt c53 [1, 1]).getD .skip) K53))
noncomputable def t53o0 (N0 : Nat) (x : Sh.Ts [(Sh.int IntKind.i64).sl]) (i5 : Int) : List AV := [AV.any, AV.any, AV.any, AV.any, AV.any, AV.slc 0 0 (List.length x.fst) Cap.low, AV.val (Value.int IntKind.i64 (↑(List.length x.fst) : Int)), AV.val (Value.int IntKind.i64 i5), AV.any, AV.any, AV.any, AV.any, AV.any, AV.any, AV.any]
noncomputable def h53o0 (N0 : Nat) (x : Sh.Ts [(Sh.int IntKind.i64).sl]) (i5 : Int) : Heap := [Ent.live (Blk.mk (Cells.arr (Sh.int IntKind.i64) x.fst) false none)]
noncomputable def tx53o0o0 (N0 : Nat) (x : Sh.Ts [(Sh.int IntKind.i64).sl]) (w7 : (Sh.int IntKind.i64).T) : List AV := [AV.any, AV.any, AV.val (Value.int IntKind.i64 w7), AV.any, AV.any, AV.any, AV.any, AV.any, AV.any, AV.any, AV.any, AV.any, AV.any, AV.any, AV.any]
noncomputable def hx53o0o0 (N0 : Nat) (x : Sh.Ts [(Sh.int IntKind.i64).sl]) (w7 : (Sh.int IntKind.i64).T) : Heap := [Ent.live (Blk.mk (Cells.arr (Sh.int IntKind.i64) x.fst) false none)]
noncomputable def tx53o0o1 (N0 : Nat) (x : Sh.Ts [(Sh.int IntKind.i64).sl]) : List AV := [AV.any, AV.any, AV.any, AV.any, AV.any, AV.any, AV.any, AV.any, AV.any, AV.any, AV.any, AV.any, AV.any, AV.any, AV.any]
noncomputable def hx53o0o1 (N0 : Nat) (x : Sh.Ts [(Sh.int IntKind.i64).sl]) : Heap := [Ent.live (Blk.mk (Cells.arr (Sh.int IntKind.i64) x.fst) false none)]
noncomputable def law53o0 {β : Type} (N0 : Nat) (x : ((List Int) × Unit)) (k0 : Int → Option β) (k1 : Option β) : Nat → Int → Option β
  | 0, _ => none
  | n + 1, i5 => (bif decide (i5 < (↑(List.length x.fst) : Int)) then (bif decide (0 ≤ i5) && decide (i5 < (↑(List.length x.fst) : Int)) then (Option.bind x.fst[i5.toNat]? fun v6 => (bif v6 != 0 then k0 v6 else law53o0 N0 x k0 k1 n (IntKind.i64.wrap (i5 + 1)))) else none) else k1)
theorem leq53o0 {β : Type} (N0 : Nat) (x : Sh.Ts [(Sh.int IntKind.i64).sl]) (K : Exit → List AV → Heap → Option β) : ∀ (n : Nat) (i5 : Int), ln53o0 N0 n (t53o0 N0 x i5) (h53o0 N0 x i5) K = law53o0 N0 x (fun w7 => K (Exit.ret) (tx53o0o0 N0 x w7) (hx53o0o0 N0 x w7)) (K (Exit.exit 0) (tx53o0o1 N0 x) (hx53o0o1 N0 x)) n i5
  | 0, _ => rfl
  | n + 1, i5 => by
    have h : ln53o0 N0 (n + 1) (t53o0 N0 x i5) (h53o0 N0 x i5) K = (bif decide (i5 < (↑(List.length x.fst) : Int)) then (bif decide (0 ≤ i5) && decide (i5 < (↑(List.length x.fst) : Int)) then (Option.bind (x.fst[0 + i5.toNat]?) fun v6 => (bif v6 != 0 then K (Exit.ret) (tx53o0o0 N0 x v6) (hx53o0o0 N0 x v6) else ln53o0 N0 n (t53o0 N0 x (IntKind.i64.wrap (i5 + 1))) (h53o0 N0 x (IntKind.i64.wrap (i5 + 1))) K)) else none) else K (Exit.exit 0) (tx53o0o1 N0 x) (hx53o0o1 N0 x)) := by kernel_rfl
    rw [h]
    simp only [decide_self, decide_true, Nat.zero_add, Bool.and_true, Bool.true_and, cond_true, law53o0, leq53o0 N0 x K n]
theorem rest53o0o0 (N0 : Nat) (x : Sh.Ts [(Sh.int IntKind.i64).sl]) (w8 : (Sh.int IntKind.i64).T) : rk53o0 N0 (Exit.ret) (tx53o0o0 N0 x w8) (hx53o0o0 N0 x w8) = some ((w8, ())) := by kernel_rfl
theorem rest53o0o1 (N0 : Nat) (x : Sh.Ts [(Sh.int IntKind.i64).sl]) : rk53o0 N0 (Exit.exit 0) (tx53o0o1 N0 x) (hx53o0o1 N0 x) = some ((0, ())) := by kernel_rfl
noncomputable def law53 (N0 : Nat) (x : ((List Int) × Unit)) : Option ((Int × Unit)) := (law53o0 N0 x (fun w8 => some ((w8, ()))) (some ((0, ()))) N0 0)
theorem eq53 (N0 : Nat) (x : Sh.Ts [(Sh.int IntKind.i64).sl]) : codeLaw Try.prog env53 200 (L53 N0) Try.f53 c53 [.sl (.int .i64)] [.int .i64] x = law53 N0 x := by
  have h : codeLaw Try.prog env53 200 (L53 N0) Try.f53 c53 [.sl (.int .i64)] [.int .i64] x = (ln53o0 N0 N0 (t53o0 N0 x 0) (h53o0 N0 x 0) (rk53o0 N0)) := by kernel_rfl
  rw [h]
  unfold law53
  simp only [decide_self, decide_true, Nat.zero_add, Bool.and_true, Bool.true_and, cond_true, leq53o0, rest53o0o0, rest53o0o1]
noncomputable def fn53 (x : ((List Int) × Unit)) : Option ((Int × Unit)) := law53 (10 ^ 30) x
theorem reads53 : Reads Try.prog 53 [.sl (.int .i64)] [.int .i64] fn53 := (Reads.of_code mixed (fn := Try.f53) (c := c53) Try.func53 (by kernel_rfl) (by kernel_rfl) env53 200 (L53_fit _) (by kernel_rfl)).to (eq53 _)
noncomputable def s53 : Summ Try.prog := reads53.summ
/- chicane/car.engine -/
noncomputable def c36 : Code := (Try.f36.body.getD .skip)
noncomputable def env36 : Env Try.prog := [s31, s54, s53]
noncomputable def L36 : Loops Try.prog := []
theorem L36_fit : (L36).fit c36 := Loops.fit_nil
noncomputable def law36 (x : (CarT × Unit)) : Option ((Int × Unit)) := (Option.bind (fn31 ([(x.fst.snd.snd.snd.snd.snd.snd.snd.snd.fst, 0, 17179869184, ()), (x.fst.snd.snd.snd.snd.snd.snd.snd.snd.snd.fst, 67108864, 68719476736, ()), (x.fst.snd.snd.snd.snd.snd.snd.snd.snd.snd.snd.fst, 137438953472, 2199023255552, ()), (x.fst.snd.snd.snd.snd.snd.snd.snd.snd.snd.snd.snd.fst, 274877906944, 8796093022208, ()), (x.fst.snd.snd.snd.snd.snd.snd.snd.snd.snd.snd.snd.snd.fst, 0, 4294967296, ()), (x.fst.snd.snd.snd.snd.snd.snd.snd.snd.snd.snd.snd.snd.snd.fst, 4294967296, 1099511627776, ()), (x.fst.snd.snd.snd.snd.snd.snd.snd.snd.snd.snd.snd.snd.snd.snd.fst, 0, 17592186044416, ())], ())) fun v0 => (Option.bind (fn54 (x.fst.snd.snd.snd.snd.snd.snd.snd.snd.snd.snd.snd.fst, x.fst.snd.snd.snd.snd.snd.snd.snd.snd.snd.snd.fst, ())) fun v1 => (Option.bind (fn53 ([v0.fst, v1.fst], ())) fun v2 => some ((v2.fst, ())))))
theorem eq36 (x : Sh.Ts [CarSh]) : codeLaw Try.prog env36 200 (L36) Try.f36 c36 [CarSh] [.int .i64] x = law36 x := by kernel_rfl
noncomputable def fn36 (x : (CarT × Unit)) : Option ((Int × Unit)) := law36 x
theorem reads36 : Reads Try.prog 36 [CarSh] [.int .i64] fn36 := (Reads.of_code mixed (fn := Try.f36) (c := c36) Try.func36 (by kernel_rfl) (by kernel_rfl) env36 200 (L36_fit) (by kernel_rfl)).to (eq36)
noncomputable def s36 : Summ Try.prog := reads36.summ
/- chicane/car.gears -/
noncomputable def c37 : Code := (Try.f37.body.getD .skip)
noncomputable def env37 : Env Try.prog := [s31]
noncomputable def b37o0 : Code := ((kid ((subAt c37 [0, 1, 0, 1, 1, 1]).getD .skip) 0).getD .skip)
noncomputable def kx37o0 : Exit → List Nat | .ret => [2] | .exit 0 => [3] | _ => []
noncomputable def Li37o0 (N0 : Nat) : Loops Try.prog := []
noncomputable def ls37o0 (N0 : Nat) : LSumm Try.prog := loopSumm mixed env37 200 (Li37o0 N0) b37o0 (Loops.fit_nil) [3, 24, 25, 26] kx37o0 (Nat.succ N0)
noncomputable def ln37o0 {β : Type} (N0 : Nat) (n : Nat) (t : List AV) (h : Heap) (K : Exit → List AV → Heap → Option β) : Option β := loopN Try.prog env37 (Sh.nes [CarSh]) 200 (Li37o0 N0) b37o0 [3, 24, 25, 26] kx37o0 n t h K
noncomputable def L37 (N0 : Nat) : Loops Try.prog := [([0, 1, 0, 1, 1, 1], ls37o0 N0)]
theorem L37_fit (N0 : Nat) : (L37 N0).fit c37 := Loops.fit_cons (by kernel_rfl) (Loops.fit_nil)
noncomputable def K37 : Exit → List AV → Heap → Option (Sh.Ts [.int .i64]) := fun e t h => outK (P := Try.prog) Try.f37 [.int .i64] e t h
noncomputable def rk37o0 (N0 : Nat) : Exit → List AV → Heap → Option (Sh.Ts [.int .i64]) := (blkK 0 (seqK Try.prog env37 (Sh.nes [CarSh]) 196 (L37 N0) [1, 1, 1, 1] ((subAt c37 [1, 1, 1, 1]).getD .skip) K37))
noncomputable def t37o0 (N0 : Nat) (x : Sh.Ts [CarSh]) (i14 : Nat) (i15 : Int) (i16 : List (Sh.st [Sh.int IntKind.i64, Sh.int IntKind.i64, Sh.int IntKind.i64]).T) : List AV := [AV.any, AV.any, AV.any, AV.slc 7 0 i14 Cap.unk, AV.any, AV.any, AV.any, AV.any, AV.any, AV.any, AV.any, AV.any, AV.any, AV.any, AV.any, AV.any, AV.any, AV.any, AV.any, AV.any, AV.any, AV.any, AV.any, AV.any, AV.slc 6 0 (List.length x.fst.snd.snd.snd.snd.snd.snd.snd.snd.snd.snd.snd.snd.snd.snd.snd.snd.fst) Cap.low, AV.val (Value.int IntKind.i64 (↑(List.length x.fst.snd.snd.snd.snd.snd.snd.snd.snd.snd.snd.snd.snd.snd.snd.snd.snd.fst) : Int)), AV.val (Value.int IntKind.i64 i15), AV.any, AV.any, AV.any, AV.any, AV.any, AV.any, AV.any, AV.any, AV.any, AV.any, AV.any]
noncomputable def h37o0 (N0 : Nat) (x : Sh.Ts [CarSh]) (i14 : Nat) (i15 : Int) (i16 : List (Sh.st [Sh.int IntKind.i64, Sh.int IntKind.i64, Sh.int IntKind.i64]).T) : Heap := [Ent.live (Blk.mk (Cells.arr (Sh.st [Sh.int IntKind.i64, Sh.int IntKind.i64]) x.fst.snd.snd.snd.snd.fst) false none), Ent.live (Blk.mk (Cells.arr (Sh.int IntKind.i64) x.fst.snd.snd.snd.snd.snd.fst.fst) false none), Ent.live (Blk.mk (Cells.arr (Sh.int IntKind.i64) x.fst.snd.snd.snd.snd.snd.fst.snd.fst) false none), Ent.live (Blk.mk (Cells.arrs (Sh.int IntKind.i64) x.fst.snd.snd.snd.snd.snd.fst.snd.snd.fst) false none), Ent.live (Blk.mk (Cells.arr (Sh.st [Sh.int IntKind.i64, Sh.int IntKind.i64]) x.fst.snd.snd.snd.snd.snd.snd.fst) false none), Ent.live (Blk.mk (Cells.arr (Sh.st [Sh.int IntKind.i64, Sh.int IntKind.i64]) x.fst.snd.snd.snd.snd.snd.snd.snd.fst) false none), Ent.live (Blk.mk (Cells.arr (Sh.int IntKind.i64) x.fst.snd.snd.snd.snd.snd.snd.snd.snd.snd.snd.snd.snd.snd.snd.snd.snd.fst) false none), Ent.live (Blk.mk (Cells.arr (Sh.st [Sh.int IntKind.i64, Sh.int IntKind.i64, Sh.int IntKind.i64]) i16) true (some 3))]
noncomputable def tx37o0o0 (N0 : Nat) (x : Sh.Ts [CarSh]) (w18 : Nat) (w19 : List (Sh.st [Sh.int IntKind.i64, Sh.int IntKind.i64, Sh.int IntKind.i64]).T) : List AV := [AV.any, AV.any, AV.any, AV.slc 7 0 w18 Cap.unk, AV.any, AV.any, AV.any, AV.any, AV.any, AV.any, AV.any, AV.any, AV.any, AV.any, AV.any, AV.any, AV.any, AV.any, AV.any, AV.any, AV.any, AV.any, AV.any, AV.any, AV.any, AV.any, AV.any, AV.any, AV.any, AV.any, AV.any, AV.any, AV.any, AV.any, AV.any, AV.any, AV.any, AV.any]
noncomputable def hx37o0o0 (N0 : Nat) (x : Sh.Ts [CarSh]) (w18 : Nat) (w19 : List (Sh.st [Sh.int IntKind.i64, Sh.int IntKind.i64, Sh.int IntKind.i64]).T) : Heap := [Ent.live (Blk.mk (Cells.arr (Sh.st [Sh.int IntKind.i64, Sh.int IntKind.i64]) x.fst.snd.snd.snd.snd.fst) false none), Ent.live (Blk.mk (Cells.arr (Sh.int IntKind.i64) x.fst.snd.snd.snd.snd.snd.fst.fst) false none), Ent.live (Blk.mk (Cells.arr (Sh.int IntKind.i64) x.fst.snd.snd.snd.snd.snd.fst.snd.fst) false none), Ent.live (Blk.mk (Cells.arrs (Sh.int IntKind.i64) x.fst.snd.snd.snd.snd.snd.fst.snd.snd.fst) false none), Ent.live (Blk.mk (Cells.arr (Sh.st [Sh.int IntKind.i64, Sh.int IntKind.i64]) x.fst.snd.snd.snd.snd.snd.snd.fst) false none), Ent.live (Blk.mk (Cells.arr (Sh.st [Sh.int IntKind.i64, Sh.int IntKind.i64]) x.fst.snd.snd.snd.snd.snd.snd.snd.fst) false none), Ent.live (Blk.mk (Cells.arr (Sh.int IntKind.i64) x.fst.snd.snd.snd.snd.snd.snd.snd.snd.snd.snd.snd.snd.snd.snd.snd.snd.fst) false none), Ent.live (Blk.mk (Cells.arr (Sh.st [Sh.int IntKind.i64, Sh.int IntKind.i64, Sh.int IntKind.i64]) w19) true (some 3))]
noncomputable def law37o0 {β : Type} (N0 : Nat) (x : (CarT × Unit)) (k0 : Nat → List (Int × Int × Int × Unit) → Option β) : Nat → Nat → Int → List (Int × Int × Int × Unit) → Option β
  | 0, _, _, _ => none
  | n + 1, i14, i15, i16 => (bif decide (i15 < (↑(List.length x.fst.snd.snd.snd.snd.snd.snd.snd.snd.snd.snd.snd.snd.snd.snd.snd.snd.fst) : Int)) then (bif decide (0 ≤ i15) && decide (i15 < (↑(List.length x.fst.snd.snd.snd.snd.snd.snd.snd.snd.snd.snd.snd.snd.snd.snd.snd.snd.fst) : Int)) then (Option.bind x.fst.snd.snd.snd.snd.snd.snd.snd.snd.snd.snd.snd.snd.snd.snd.snd.snd.fst[i15.toNat]? fun v17 => (bif decide (i14 = i16.length) && (decide ((i14 + 1) * Try.prog.types[65].bytes ≤ 140737488355328) && decide (i14 + 1 ≤ 9223372036854775807)) then law37o0 N0 x k0 n (i14 + 1) (IntKind.i64.wrap (i15 + 1)) (i16.append [(v17, 1073741824, 137438953472, ())]) else none)) else none) else k0 i14 i16)
theorem leq37o0 {β : Type} (N0 : Nat) (x : Sh.Ts [CarSh]) (K : Exit → List AV → Heap → Option β) : ∀ (n : Nat) (i14 : Nat) (i15 : Int) (i16 : List (Sh.st [Sh.int IntKind.i64, Sh.int IntKind.i64, Sh.int IntKind.i64]).T), ln37o0 N0 n (t37o0 N0 x i14 i15 i16) (h37o0 N0 x i14 i15 i16) K = law37o0 N0 x (fun w18 w19 => K (Exit.exit 0) (tx37o0o0 N0 x w18 w19) (hx37o0o0 N0 x w18 w19)) n i14 i15 i16
  | 0, _, _, _ => rfl
  | n + 1, i14, i15, i16 => by
    have h : ln37o0 N0 (n + 1) (t37o0 N0 x i14 i15 i16) (h37o0 N0 x i14 i15 i16) K = (bif decide (i15 < (↑(List.length x.fst.snd.snd.snd.snd.snd.snd.snd.snd.snd.snd.snd.snd.snd.snd.snd.snd.fst) : Int)) then (bif decide (0 ≤ i15) && decide (i15 < (↑(List.length x.fst.snd.snd.snd.snd.snd.snd.snd.snd.snd.snd.snd.snd.snd.snd.snd.snd.fst) : Int)) then (Option.bind (x.fst.snd.snd.snd.snd.snd.snd.snd.snd.snd.snd.snd.snd.snd.snd.snd.snd.fst[0 + i15.toNat]?) fun v17 => (bif decide (i14 = i16.length) && (decide ((i14 + 1) * Try.prog.types[65].bytes ≤ 140737488355328) && decide (i14 + 1 ≤ 9223372036854775807)) then ln37o0 N0 n (t37o0 N0 x (i14 + 1) (IntKind.i64.wrap (i15 + 1)) (i16.append [(v17, 1073741824, 137438953472, ())])) (h37o0 N0 x (i14 + 1) (IntKind.i64.wrap (i15 + 1)) (i16.append [(v17, 1073741824, 137438953472, ())])) K else none)) else none) else K (Exit.exit 0) (tx37o0o0 N0 x i14 i16) (hx37o0o0 N0 x i14 i16)) := by kernel_rfl
    rw [h]
    simp only [decide_self, decide_true, Nat.zero_add, Bool.and_true, Bool.true_and, cond_true, law37o0, leq37o0 N0 x K n]
theorem rest37o0o0 (N0 : Nat) (x : Sh.Ts [CarSh]) (w20 : Nat) (w21 : List (Sh.st [Sh.int IntKind.i64, Sh.int IntKind.i64, Sh.int IntKind.i64]).T) : rk37o0 N0 (Exit.exit 0) (tx37o0o0 N0 x w20 w21) (hx37o0o0 N0 x w20 w21) = (bif decide (w20 = w21.length) then (Option.bind (fn31 (w21, ())) fun v22 => some ((v22.fst, ()))) else none) := by
  have h : rk37o0 N0 (Exit.exit 0) (tx37o0o0 N0 x w20 w21) (hx37o0o0 N0 x w20 w21) = (bif decide (w20 = w21.length) && true then (Option.bind (fn31 (w21, ())) fun v22 => some ((v22.fst, ()))) else none) := by kernel_rfl
  rw [h]
  simp only [decide_self, decide_true, Nat.zero_add, Bool.and_true, Bool.true_and, cond_true, leq37o0]
noncomputable def law37 (N0 : Nat) (x : (CarT × Unit)) : Option ((Int × Unit)) := (bif decide ((↑(List.length x.fst.snd.snd.snd.snd.snd.snd.snd.snd.snd.snd.snd.snd.snd.snd.snd.snd.fst) : Int) < 1) then some ((42, ())) else (bif decide ((↑(List.length x.fst.snd.snd.snd.snd.snd.snd.snd.snd.snd.snd.snd.snd.snd.snd.snd.snd.fst) : Int) > 8) then some ((42, ())) else (bif decide (0 < (↑(List.length x.fst.snd.snd.snd.snd.snd.snd.snd.snd.snd.snd.snd.snd.snd.snd.snd.snd.fst) : Int)) then (bif decide (0 ≤ 0) && decide (0 < (↑(List.length x.fst.snd.snd.snd.snd.snd.snd.snd.snd.snd.snd.snd.snd.snd.snd.snd.snd.fst) : Int)) then (Option.bind (x.fst.snd.snd.snd.snd.snd.snd.snd.snd.snd.snd.snd.snd.snd.snd.snd.snd.fst[Int.toNat 0]?) fun v0 => (law37o0 N0 x (fun w20 w21 => (bif decide (w20 = w21.length) then (Option.bind (fn31 (w21, ())) fun v22 => some ((v22.fst, ()))) else none)) N0 3 (IntKind.i64.wrap (0 + 1)) ([(x.fst.snd.snd.snd.snd.snd.snd.snd.snd.snd.snd.snd.snd.snd.snd.snd.fst, 1073741824, 137438953472, ()), (x.fst.snd.snd.snd.snd.snd.snd.snd.snd.snd.snd.snd.snd.snd.snd.snd.snd.snd.fst, 2147483648, 68719476736, ()), (v0, 1073741824, 137438953472, ())]))) else none) else (Option.bind (fn31 ([(x.fst.snd.snd.snd.snd.snd.snd.snd.snd.snd.snd.snd.snd.snd.snd.snd.fst, 1073741824, 137438953472, ()), (x.fst.snd.snd.snd.snd.snd.snd.snd.snd.snd.snd.snd.snd.snd.snd.snd.snd.snd.fst, 2147483648, 68719476736, ())], ())) fun v23 => some ((v23.fst, ()))))))
theorem eq37 (N0 : Nat) (x : Sh.Ts [CarSh]) : codeLaw Try.prog env37 200 (L37 N0) Try.f37 c37 [CarSh] [.int .i64] x = law37 N0 x := by
  have h : codeLaw Try.prog env37 200 (L37 N0) Try.f37 c37 [CarSh] [.int .i64] x = (bif decide ((↑(List.length x.fst.snd.snd.snd.snd.snd.snd.snd.snd.snd.snd.snd.snd.snd.snd.snd.snd.fst) : Int) < 1) then some ((42, ())) else (bif decide ((↑(List.length x.fst.snd.snd.snd.snd.snd.snd.snd.snd.snd.snd.snd.snd.snd.snd.snd.snd.fst) : Int) > 8) then some ((42, ())) else (bif decide (0 < (↑(List.length x.fst.snd.snd.snd.snd.snd.snd.snd.snd.snd.snd.snd.snd.snd.snd.snd.snd.fst) : Int)) then (bif decide (0 ≤ 0) && decide (0 < (↑(List.length x.fst.snd.snd.snd.snd.snd.snd.snd.snd.snd.snd.snd.snd.snd.snd.snd.snd.fst) : Int)) then (Option.bind (x.fst.snd.snd.snd.snd.snd.snd.snd.snd.snd.snd.snd.snd.snd.snd.snd.snd.fst[0 + Int.toNat 0]?) fun v0 => (ln37o0 N0 N0 (t37o0 N0 x 3 (IntKind.i64.wrap (0 + 1)) ([(x.fst.snd.snd.snd.snd.snd.snd.snd.snd.snd.snd.snd.snd.snd.snd.snd.fst, 1073741824, 137438953472, ()), (x.fst.snd.snd.snd.snd.snd.snd.snd.snd.snd.snd.snd.snd.snd.snd.snd.snd.snd.fst, 2147483648, 68719476736, ()), (v0, 1073741824, 137438953472, ())])) (h37o0 N0 x 3 (IntKind.i64.wrap (0 + 1)) ([(x.fst.snd.snd.snd.snd.snd.snd.snd.snd.snd.snd.snd.snd.snd.snd.snd.fst, 1073741824, 137438953472, ()), (x.fst.snd.snd.snd.snd.snd.snd.snd.snd.snd.snd.snd.snd.snd.snd.snd.snd.snd.fst, 2147483648, 68719476736, ()), (v0, 1073741824, 137438953472, ())])) (rk37o0 N0))) else none) else (Option.bind (fn31 ([(x.fst.snd.snd.snd.snd.snd.snd.snd.snd.snd.snd.snd.snd.snd.snd.snd.fst, 1073741824, 137438953472, ()), (x.fst.snd.snd.snd.snd.snd.snd.snd.snd.snd.snd.snd.snd.snd.snd.snd.snd.snd.fst, 2147483648, 68719476736, ())], ())) fun v23 => some ((v23.fst, ())))))) := by kernel_rfl
  rw [h]
  unfold law37
  simp only [decide_self, decide_true, Nat.zero_add, Bool.and_true, Bool.true_and, cond_true, leq37o0, rest37o0o0]
noncomputable def fn37 (x : (CarT × Unit)) : Option ((Int × Unit)) := law37 (10 ^ 30) x
theorem reads37 : Reads Try.prog 37 [CarSh] [.int .i64] fn37 := (Reads.of_code mixed (fn := Try.f37) (c := c37) Try.func37 (by kernel_rfl) (by kernel_rfl) env37 200 (L37_fit _) (by kernel_rfl)).to (eq37 _)
noncomputable def s37 : Summ Try.prog := reads37.summ
/- chicane/car.rest -/
noncomputable def c38 : Code := (Try.f38.body.getD .skip)
noncomputable def env38 : Env Try.prog := [s31]
noncomputable def L38 : Loops Try.prog := []
theorem L38_fit : (L38).fit c38 := Loops.fit_nil
noncomputable def law38 (x : (CarT × Unit)) : Option ((Int × Unit)) := (bif x.fst.snd.snd.snd.snd.snd.snd.snd.snd.snd.snd.snd.snd.snd.snd.snd.snd.snd.snd.fst == 0 then (bif x.fst.snd.snd.snd.snd.snd.snd.snd.snd.snd.snd.snd.snd.snd.snd.snd.snd.snd.snd.fst == 0 then (Option.bind (fn31 ([(x.fst.snd.snd.snd.snd.snd.snd.snd.snd.snd.snd.snd.snd.snd.snd.snd.snd.snd.snd.snd.fst, 0, 281474976710656, ()), (x.fst.snd.snd.snd.snd.snd.snd.snd.snd.snd.snd.snd.snd.snd.snd.snd.snd.snd.snd.snd.snd.fst, 0, 70368744177664, ()), (x.fst.snd.snd.snd.snd.snd.snd.snd.snd.snd.snd.snd.snd.snd.snd.snd.snd.snd.snd.snd.snd.snd.fst, 0, 70368744177664, ()), (x.fst.snd.snd.snd.snd.snd.snd.snd.snd.snd.snd.snd.snd.snd.snd.snd.snd.snd.snd.snd.snd.snd.snd.fst, 0, 4294967296, ()), (IntKind.i64.wrap x.fst.snd.snd.snd.snd.snd.snd.snd.snd.snd.snd.snd.snd.snd.snd.snd.snd.snd.snd.snd.snd.snd.snd.snd.fst, 0, 536870912, ()), (IntKind.i64.wrap x.fst.snd.snd.snd.snd.snd.snd.snd.snd.snd.snd.snd.snd.snd.snd.snd.snd.snd.snd.snd.snd.snd.snd.snd.snd.fst, 0, 2147483648, ())], ())) fun v0 => some ((v0.fst, ()))) else some ((40, ()))) else (bif x.fst.snd.snd.snd.snd.snd.snd.snd.snd.snd.snd.snd.snd.snd.snd.snd.snd.snd.snd.fst == 1 then (bif x.fst.snd.snd.snd.snd.snd.snd.snd.snd.snd.snd.snd.snd.snd.snd.snd.snd.snd.snd.fst == 1 then (Option.bind (fn31 ([(x.fst.snd.snd.snd.snd.snd.snd.snd.snd.snd.snd.snd.snd.snd.snd.snd.snd.snd.snd.snd.fst, 0, 281474976710656, ()), (x.fst.snd.snd.snd.snd.snd.snd.snd.snd.snd.snd.snd.snd.snd.snd.snd.snd.snd.snd.snd.snd.fst, 0, 70368744177664, ()), (x.fst.snd.snd.snd.snd.snd.snd.snd.snd.snd.snd.snd.snd.snd.snd.snd.snd.snd.snd.snd.snd.snd.fst, 0, 70368744177664, ()), (x.fst.snd.snd.snd.snd.snd.snd.snd.snd.snd.snd.snd.snd.snd.snd.snd.snd.snd.snd.snd.snd.snd.snd.fst, 0, 4294967296, ()), (IntKind.i64.wrap x.fst.snd.snd.snd.snd.snd.snd.snd.snd.snd.snd.snd.snd.snd.snd.snd.snd.snd.snd.snd.snd.snd.snd.snd.fst, 0, 536870912, ()), (IntKind.i64.wrap x.fst.snd.snd.snd.snd.snd.snd.snd.snd.snd.snd.snd.snd.snd.snd.snd.snd.snd.snd.snd.snd.snd.snd.snd.snd.fst, 0, 2147483648, ())], ())) fun v1 => some ((v1.fst, ()))) else some ((40, ()))) else (bif x.fst.snd.snd.snd.snd.snd.snd.snd.snd.snd.snd.snd.snd.snd.snd.snd.snd.snd.snd.fst == 2 then (Option.bind (fn31 ([(x.fst.snd.snd.snd.snd.snd.snd.snd.snd.snd.snd.snd.snd.snd.snd.snd.snd.snd.snd.snd.fst, 0, 281474976710656, ()), (x.fst.snd.snd.snd.snd.snd.snd.snd.snd.snd.snd.snd.snd.snd.snd.snd.snd.snd.snd.snd.snd.fst, 0, 70368744177664, ()), (x.fst.snd.snd.snd.snd.snd.snd.snd.snd.snd.snd.snd.snd.snd.snd.snd.snd.snd.snd.snd.snd.snd.fst, 0, 70368744177664, ()), (x.fst.snd.snd.snd.snd.snd.snd.snd.snd.snd.snd.snd.snd.snd.snd.snd.snd.snd.snd.snd.snd.snd.snd.fst, 0, 4294967296, ()), (IntKind.i64.wrap x.fst.snd.snd.snd.snd.snd.snd.snd.snd.snd.snd.snd.snd.snd.snd.snd.snd.snd.snd.snd.snd.snd.snd.snd.fst, 0, 536870912, ()), (IntKind.i64.wrap x.fst.snd.snd.snd.snd.snd.snd.snd.snd.snd.snd.snd.snd.snd.snd.snd.snd.snd.snd.snd.snd.snd.snd.snd.snd.fst, 0, 2147483648, ())], ())) fun v2 => some ((v2.fst, ()))) else some ((40, ())))))
theorem eq38 (x : Sh.Ts [CarSh]) : codeLaw Try.prog env38 200 (L38) Try.f38 c38 [CarSh] [.int .i64] x = law38 x := by kernel_rfl
noncomputable def fn38 (x : (CarT × Unit)) : Option ((Int × Unit)) := law38 x
theorem reads38 : Reads Try.prog 38 [CarSh] [.int .i64] fn38 := (Reads.of_code mixed (fn := Try.f38) (c := c38) Try.func38 (by kernel_rfl) (by kernel_rfl) env38 200 (L38_fit) (by kernel_rfl)).to (eq38)
noncomputable def s38 : Summ Try.prog := reads38.summ
/- chicane/car.ease -/
noncomputable def c39 : Code := (Try.f39.body.getD .skip)
noncomputable def env39 : Env Try.prog := [s31, s54, s53]
noncomputable def L39 : Loops Try.prog := []
theorem L39_fit : (L39).fit c39 := Loops.fit_nil
noncomputable def law39 (x : (CarT × Unit)) : Option ((Int × Unit)) := (Option.bind (fn31 ([(x.fst.snd.snd.snd.snd.snd.snd.snd.snd.snd.snd.snd.snd.snd.snd.snd.snd.snd.snd.snd.snd.snd.snd.snd.snd.snd.snd.snd.snd.fst, 0, 17179869184, ()), (x.fst.snd.snd.snd.snd.snd.snd.snd.snd.snd.snd.snd.snd.snd.snd.snd.snd.snd.snd.snd.snd.snd.snd.snd.snd.snd.snd.snd.snd.snd.fst, 0, 17179869184, ()), (x.fst.snd.snd.snd.snd.snd.snd.snd.snd.snd.snd.snd.snd.snd.snd.snd.snd.snd.snd.snd.snd.snd.snd.snd.snd.snd.snd.snd.snd.snd.snd.fst, 0, 8796093022208, ()), (x.fst.snd.snd.snd.snd.snd.snd.snd.snd.snd.snd.snd.snd.snd.snd.snd.snd.snd.snd.snd.snd.snd.snd.snd.snd.snd.snd.snd.snd.snd.snd.snd.fst, 0, 8796093022208, ())], ())) fun v0 => (Option.bind (fn54 x.fst.snd.snd.snd.snd.snd.snd.snd.snd.snd.snd.snd.snd.snd.snd.snd.snd.snd.snd.snd.snd.snd.snd.snd.snd.snd.snd.snd.snd.snd.snd) fun v1 => (Option.bind (fn53 ([v0.fst, v1.fst], ())) fun v2 => some ((v2.fst, ())))))
theorem eq39 (x : Sh.Ts [CarSh]) : codeLaw Try.prog env39 200 (L39) Try.f39 c39 [CarSh] [.int .i64] x = law39 x := by kernel_rfl
noncomputable def fn39 (x : (CarT × Unit)) : Option ((Int × Unit)) := law39 x
theorem reads39 : Reads Try.prog 39 [CarSh] [.int .i64] fn39 := (Reads.of_code mixed (fn := Try.f39) (c := c39) Try.func39 (by kernel_rfl) (by kernel_rfl) env39 200 (L39_fit) (by kernel_rfl)).to (eq39)
noncomputable def s39 : Summ Try.prog := reads39.summ
/- chicane/car.all -/
noncomputable def c13 : Code := (Try.f13.body.getD .skip)
noncomputable def env13 : Env Try.prog := [s29, s30, s31, s32, s33, s34, s35, s36, s37, s38, s39]
noncomputable def L13 : Loops Try.prog := []
theorem L13_fit : (L13).fit c13 := Loops.fit_nil
noncomputable def law13 (x : (CarT × Unit)) : Option (List Int) := (Option.bind (fn29 x) fun v0 => (Option.bind (fn30 (x.fst.snd.snd.fst.fst, ())) fun v1 => (Option.bind (fn30 (x.fst.snd.snd.fst.snd.fst, ())) fun v2 => (Option.bind (fn30 (x.fst.snd.snd.fst.snd.snd.fst, ())) fun v3 => (Option.bind (fn30 x.fst.snd.snd.fst.snd.snd.snd) fun v4 => (Option.bind (fn31 ([(x.fst.snd.snd.snd.fst.fst, 0, 562949953421312, ()), (x.fst.snd.snd.snd.fst.snd.fst, 0, 562949953421312, ())], ())) fun v5 => (Option.bind (fn32x33 (x.fst.snd.snd.snd.snd.fst, -140737488355328, 140737488355328, ()) ()) fun v6 => (Option.bind (fn34 (x.fst.snd.snd.snd.snd.snd.fst, ())) fun v7 => (Option.bind (fn32x35 (x.fst.snd.snd.snd.snd.snd.snd.fst, -17592186044416, 17592186044416, ()) ()) fun v8 => (Option.bind (fn32x35 (x.fst.snd.snd.snd.snd.snd.snd.snd.fst, 0, 140737488355328, ()) ()) fun v9 => (Option.bind (fn36 x) fun v10 => (Option.bind (fn37 x) fun v11 => (Option.bind (fn38 x) fun v12 => (Option.bind (fn39 x) fun v13 => some ([v0.fst, v1.fst, v2.fst, v3.fst, v4.fst, v5.fst, v6.fst, v7.fst, v8.fst, v9.fst, v10.fst, v11.fst, v12.fst, v13.fst])))))))))))))))
theorem eq13 (x : Sh.Ts [CarSh]) : codeLawF Try.prog env13 200 (L13) Try.f13 c13 [CarSh] (.int .i64) x = law13 x := by
  have h : codeLawF Try.prog env13 200 (L13) Try.f13 c13 [CarSh] (.int .i64) x = (bif decide (List.length x.fst.snd.snd.snd.snd.fst = List.length x.fst.snd.snd.snd.snd.fst) && (decide (List.length x.fst.snd.snd.snd.snd.snd.fst.fst = List.length x.fst.snd.snd.snd.snd.snd.fst.fst) && (decide (List.length x.fst.snd.snd.snd.snd.snd.fst.snd.fst = List.length x.fst.snd.snd.snd.snd.snd.fst.snd.fst) && (decide (List.length x.fst.snd.snd.snd.snd.snd.fst.snd.snd.fst = List.length x.fst.snd.snd.snd.snd.snd.fst.snd.snd.fst) && true)) && (decide (List.length x.fst.snd.snd.snd.snd.snd.snd.fst = List.length x.fst.snd.snd.snd.snd.snd.snd.fst) && (decide (List.length x.fst.snd.snd.snd.snd.snd.snd.snd.fst = List.length x.fst.snd.snd.snd.snd.snd.snd.snd.fst) && (decide (List.length x.fst.snd.snd.snd.snd.snd.snd.snd.snd.snd.snd.snd.snd.snd.snd.snd.snd.fst = List.length x.fst.snd.snd.snd.snd.snd.snd.snd.snd.snd.snd.snd.snd.snd.snd.snd.snd.fst) && true)))) && true then (Option.bind (fn29 x) fun v0 => (Option.bind (fn30 (x.fst.snd.snd.fst.fst, ())) fun v1 => (Option.bind (fn30 (x.fst.snd.snd.fst.snd.fst, ())) fun v2 => (Option.bind (fn30 (x.fst.snd.snd.fst.snd.snd.fst, ())) fun v3 => (Option.bind (fn30 x.fst.snd.snd.fst.snd.snd.snd) fun v4 => (Option.bind (fn31 ([(x.fst.snd.snd.snd.fst.fst, 0, 562949953421312, ()), (x.fst.snd.snd.snd.fst.snd.fst, 0, 562949953421312, ())], ())) fun v5 => (bif decide (List.length x.fst.snd.snd.snd.snd.fst = List.length x.fst.snd.snd.snd.snd.fst) && true && true then (Option.bind (fn32x33 (x.fst.snd.snd.snd.snd.fst, -140737488355328, 140737488355328, ()) ()) fun v6 => (bif decide (List.length x.fst.snd.snd.snd.snd.snd.fst.fst = List.length x.fst.snd.snd.snd.snd.snd.fst.fst) && (decide (List.length x.fst.snd.snd.snd.snd.snd.fst.snd.fst = List.length x.fst.snd.snd.snd.snd.snd.fst.snd.fst) && (decide (List.length x.fst.snd.snd.snd.snd.snd.fst.snd.snd.fst = List.length x.fst.snd.snd.snd.snd.snd.fst.snd.snd.fst) && true)) && true then (Option.bind (fn34 (x.fst.snd.snd.snd.snd.snd.fst, ())) fun v7 => (bif decide (List.length x.fst.snd.snd.snd.snd.snd.snd.fst = List.length x.fst.snd.snd.snd.snd.snd.snd.fst) && true && true then (Option.bind (fn32x35 (x.fst.snd.snd.snd.snd.snd.snd.fst, -17592186044416, 17592186044416, ()) ()) fun v8 => (bif decide (List.length x.fst.snd.snd.snd.snd.snd.snd.snd.fst = List.length x.fst.snd.snd.snd.snd.snd.snd.snd.fst) && true && true then (Option.bind (fn32x35 (x.fst.snd.snd.snd.snd.snd.snd.snd.fst, 0, 140737488355328, ()) ()) fun v9 => (bif decide (List.length x.fst.snd.snd.snd.snd.fst = List.length x.fst.snd.snd.snd.snd.fst) && (decide (List.length x.fst.snd.snd.snd.snd.snd.fst.fst = List.length x.fst.snd.snd.snd.snd.snd.fst.fst) && (decide (List.length x.fst.snd.snd.snd.snd.snd.fst.snd.fst = List.length x.fst.snd.snd.snd.snd.snd.fst.snd.fst) && (decide (List.length x.fst.snd.snd.snd.snd.snd.fst.snd.snd.fst = List.length x.fst.snd.snd.snd.snd.snd.fst.snd.snd.fst) && true)) && (decide (List.length x.fst.snd.snd.snd.snd.snd.snd.fst = List.length x.fst.snd.snd.snd.snd.snd.snd.fst) && (decide (List.length x.fst.snd.snd.snd.snd.snd.snd.snd.fst = List.length x.fst.snd.snd.snd.snd.snd.snd.snd.fst) && (decide (List.length x.fst.snd.snd.snd.snd.snd.snd.snd.snd.snd.snd.snd.snd.snd.snd.snd.snd.fst = List.length x.fst.snd.snd.snd.snd.snd.snd.snd.snd.snd.snd.snd.snd.snd.snd.snd.snd.fst) && true)))) && true then (Option.bind (fn36 x) fun v10 => (bif decide (List.length x.fst.snd.snd.snd.snd.fst = List.length x.fst.snd.snd.snd.snd.fst) && (decide (List.length x.fst.snd.snd.snd.snd.snd.fst.fst = List.length x.fst.snd.snd.snd.snd.snd.fst.fst) && (decide (List.length x.fst.snd.snd.snd.snd.snd.fst.snd.fst = List.length x.fst.snd.snd.snd.snd.snd.fst.snd.fst) && (decide (List.length x.fst.snd.snd.snd.snd.snd.fst.snd.snd.fst = List.length x.fst.snd.snd.snd.snd.snd.fst.snd.snd.fst) && true)) && (decide (List.length x.fst.snd.snd.snd.snd.snd.snd.fst = List.length x.fst.snd.snd.snd.snd.snd.snd.fst) && (decide (List.length x.fst.snd.snd.snd.snd.snd.snd.snd.fst = List.length x.fst.snd.snd.snd.snd.snd.snd.snd.fst) && (decide (List.length x.fst.snd.snd.snd.snd.snd.snd.snd.snd.snd.snd.snd.snd.snd.snd.snd.snd.fst = List.length x.fst.snd.snd.snd.snd.snd.snd.snd.snd.snd.snd.snd.snd.snd.snd.snd.snd.fst) && true)))) && true then (Option.bind (fn37 x) fun v11 => (bif decide (List.length x.fst.snd.snd.snd.snd.fst = List.length x.fst.snd.snd.snd.snd.fst) && (decide (List.length x.fst.snd.snd.snd.snd.snd.fst.fst = List.length x.fst.snd.snd.snd.snd.snd.fst.fst) && (decide (List.length x.fst.snd.snd.snd.snd.snd.fst.snd.fst = List.length x.fst.snd.snd.snd.snd.snd.fst.snd.fst) && (decide (List.length x.fst.snd.snd.snd.snd.snd.fst.snd.snd.fst = List.length x.fst.snd.snd.snd.snd.snd.fst.snd.snd.fst) && true)) && (decide (List.length x.fst.snd.snd.snd.snd.snd.snd.fst = List.length x.fst.snd.snd.snd.snd.snd.snd.fst) && (decide (List.length x.fst.snd.snd.snd.snd.snd.snd.snd.fst = List.length x.fst.snd.snd.snd.snd.snd.snd.snd.fst) && (decide (List.length x.fst.snd.snd.snd.snd.snd.snd.snd.snd.snd.snd.snd.snd.snd.snd.snd.snd.fst = List.length x.fst.snd.snd.snd.snd.snd.snd.snd.snd.snd.snd.snd.snd.snd.snd.snd.snd.fst) && true)))) && true then (Option.bind (fn38 x) fun v12 => (bif decide (List.length x.fst.snd.snd.snd.snd.fst = List.length x.fst.snd.snd.snd.snd.fst) && (decide (List.length x.fst.snd.snd.snd.snd.snd.fst.fst = List.length x.fst.snd.snd.snd.snd.snd.fst.fst) && (decide (List.length x.fst.snd.snd.snd.snd.snd.fst.snd.fst = List.length x.fst.snd.snd.snd.snd.snd.fst.snd.fst) && (decide (List.length x.fst.snd.snd.snd.snd.snd.fst.snd.snd.fst = List.length x.fst.snd.snd.snd.snd.snd.fst.snd.snd.fst) && true)) && (decide (List.length x.fst.snd.snd.snd.snd.snd.snd.fst = List.length x.fst.snd.snd.snd.snd.snd.snd.fst) && (decide (List.length x.fst.snd.snd.snd.snd.snd.snd.snd.fst = List.length x.fst.snd.snd.snd.snd.snd.snd.snd.fst) && (decide (List.length x.fst.snd.snd.snd.snd.snd.snd.snd.snd.snd.snd.snd.snd.snd.snd.snd.snd.fst = List.length x.fst.snd.snd.snd.snd.snd.snd.snd.snd.snd.snd.snd.snd.snd.snd.snd.snd.fst) && true)))) && true then (Option.bind (fn39 x) fun v13 => some ([v0.fst, v1.fst, v2.fst, v3.fst, v4.fst, v5.fst, v6.fst, v7.fst, v8.fst, v9.fst, v10.fst, v11.fst, v12.fst, v13.fst])) else none)) else none)) else none)) else none)) else none)) else none)) else none)) else none))))))) else none) := by kernel_rfl
  rw [h]
  unfold law13
  simp only [decide_self, decide_true, Nat.zero_add, Bool.and_true, Bool.true_and, cond_true]
noncomputable def fn13 (x : (CarT × Unit)) : Option (List (Int)) := law13 x
theorem reads13 : ReadsF Try.prog 13 [CarSh] (.int .i64) fn13 := (ReadsF.of_code mixed (fn := Try.f13) (c := c13) Try.func13 (by kernel_rfl) (by kernel_rfl) env13 200 (L13_fit)).to (eq13)
noncomputable def s13 : Summ Try.prog := reads13.summ
/- chicane/car.Right$1 -/
noncomputable def c15 : Code := (Try.f15.body.getD .skip)
noncomputable def env15 : Env Try.prog := []
noncomputable def L15 : Loops Try.prog := []
theorem L15_fit : (L15).fit c15 := Loops.fit_nil
noncomputable def law15 (x : (Int × Unit)) : Option ((Bool × Unit)) := some ((x.fst != 0, ()))
theorem eq15 (x : Sh.Ts [Sh.int IntKind.i64]) : codeLaw Try.prog env15 200 (L15) Try.f15 c15 [.int .i64] [.bool] x = law15 x := by kernel_rfl
noncomputable def fn15 (x : (Int × Unit)) : Option ((Bool × Unit)) := law15 x
theorem reads15 : Reads Try.prog 15 [.int .i64] [.bool] fn15 := (Reads.of_code mixed (fn := Try.f15) (c := c15) Try.func15 (by kernel_rfl) (by kernel_rfl) env15 200 (L15_fit) (by kernel_rfl)).to (eq15)
noncomputable def s15 : Summ Try.prog := reads15.summ
/- slices.IndexFunc[[]chicane/api.Errno,chicane/api.Errno] -/
noncomputable def c14x15 : Code := (Try.f14.body.getD .skip)
noncomputable def env14x15 : Env Try.prog := [s15]
noncomputable def b14x15_0 : Code := ((kid ((subAt c14x15 [0, 1, 0, 1]).getD .skip) 0).getD .skip)
noncomputable def kx14x15_0 : Exit → List Nat | .ret => [4] | _ => []
noncomputable def Li14x15_0 (N0 : Nat) : Loops Try.prog := []
noncomputable def ls14x15_0 (N0 : Nat) : LSumm Try.prog := loopSumm mixed env14x15 200 (Li14x15_0 N0) b14x15_0 (Loops.fit_nil) [0, 1, 7, 8] kx14x15_0 (N0)
noncomputable def ln14x15_0 {β : Type} (N0 : Nat) (n : Nat) (t : List AV) (h : Heap) (K : Exit → List AV → Heap → Option β) : Option β := loopN Try.prog env14x15 (Sh.nes [.sl (.int .i64)] + Sh.nes [] + List.length (α := Sh) []) 200 (Li14x15_0 N0) b14x15_0 [0, 1, 7, 8] kx14x15_0 n t h K
noncomputable def L14x15 (N0 : Nat) : Loops Try.prog := [([0, 1, 0, 1], ls14x15_0 N0)]
theorem L14x15_fit (N0 : Nat) : (L14x15 N0).fit c14x15 := Loops.fit_cons (by kernel_rfl) (Loops.fit_nil)
noncomputable def K14x15 : Exit → List AV → Heap → Option (Sh.Ts [.int .i64]) := fun e t h => outK (P := Try.prog) Try.f14 [.int .i64] e t h
noncomputable def rk14x15_0 (N0 : Nat) : Exit → List AV → Heap → Option (Sh.Ts [.int .i64]) := (blkK 0 (seqK Try.prog env14x15 (Sh.nes [.sl (.int .i64)] + Sh.nes [] + List.length (α := Sh) []) 198 (L14x15 N0) [1, 1] ((subAt c14x15 [1, 1]).getD .skip) K14x15))
noncomputable def t14x15_0 (N0 : Nat) (x : Sh.Ts [(Sh.int IntKind.i64).sl]) (i5 : Int) : List AV := [AV.slc 0 0 (List.length x.fst) Cap.low, AV.fn (Fn.func 15) [] [], AV.any, AV.any, AV.any, AV.any, AV.any, AV.val (Value.int IntKind.i64 (↑(List.length x.fst) : Int)), AV.val (Value.int IntKind.i64 i5), AV.any, AV.any, AV.any, AV.any, AV.any, AV.any, AV.any, AV.any, AV.any, AV.any]
noncomputable def h14x15_0 (N0 : Nat) (x : Sh.Ts [(Sh.int IntKind.i64).sl]) (i5 : Int) : Heap := [Ent.live (Blk.mk (Cells.arr (Sh.int IntKind.i64) x.fst) false none)]
noncomputable def tx14x15_0_0 (N0 : Nat) (x : Sh.Ts [(Sh.int IntKind.i64).sl]) (w7 : Int) : List AV := [AV.any, AV.any, AV.any, AV.any, AV.val (Value.int IntKind.i64 w7), AV.any, AV.any, AV.any, AV.any, AV.any, AV.any, AV.any, AV.any, AV.any, AV.any, AV.any, AV.any, AV.any, AV.any]
noncomputable def hx14x15_0_0 (N0 : Nat) (x : Sh.Ts [(Sh.int IntKind.i64).sl]) (w7 : Int) : Heap := [Ent.live (Blk.mk (Cells.arr (Sh.int IntKind.i64) x.fst) false none)]
noncomputable def tx14x15_0_1 (N0 : Nat) (x : Sh.Ts [(Sh.int IntKind.i64).sl]) : List AV := [AV.any, AV.any, AV.any, AV.any, AV.any, AV.any, AV.any, AV.any, AV.any, AV.any, AV.any, AV.any, AV.any, AV.any, AV.any, AV.any, AV.any, AV.any, AV.any]
noncomputable def hx14x15_0_1 (N0 : Nat) (x : Sh.Ts [(Sh.int IntKind.i64).sl]) : Heap := [Ent.live (Blk.mk (Cells.arr (Sh.int IntKind.i64) x.fst) false none)]
noncomputable def law14x15_0 {β : Type} (N0 : Nat) (x : ((List Int) × Unit)) (k0 : Int → Option β) (k1 : Option β) : Nat → Int → Option β
  | 0, _ => none
  | n + 1, i5 => (bif decide (i5 < (↑(List.length x.fst) : Int)) then (bif decide (0 ≤ i5) && decide (i5 < (↑(List.length x.fst) : Int)) then (Option.bind x.fst[i5.toNat]? fun v6 => (bif v6 != 0 then k0 i5 else law14x15_0 N0 x k0 k1 n (IntKind.i64.wrap (i5 + 1)))) else none) else k1)
theorem leq14x15_0 {β : Type} (N0 : Nat) (x : Sh.Ts [(Sh.int IntKind.i64).sl]) (K : Exit → List AV → Heap → Option β) : ∀ (n : Nat) (i5 : Int), ln14x15_0 N0 n (t14x15_0 N0 x i5) (h14x15_0 N0 x i5) K = law14x15_0 N0 x (fun w7 => K (Exit.ret) (tx14x15_0_0 N0 x w7) (hx14x15_0_0 N0 x w7)) (K (Exit.exit 0) (tx14x15_0_1 N0 x) (hx14x15_0_1 N0 x)) n i5
  | 0, _ => rfl
  | n + 1, i5 => by
    have h : ln14x15_0 N0 (n + 1) (t14x15_0 N0 x i5) (h14x15_0 N0 x i5) K = (bif decide (i5 < (↑(List.length x.fst) : Int)) then (bif decide (0 ≤ i5) && decide (i5 < (↑(List.length x.fst) : Int)) then (Option.bind (x.fst[0 + i5.toNat]?) fun v6 => (bif v6 != 0 then K (Exit.ret) (tx14x15_0_0 N0 x i5) (hx14x15_0_0 N0 x i5) else ln14x15_0 N0 n (t14x15_0 N0 x (IntKind.i64.wrap (i5 + 1))) (h14x15_0 N0 x (IntKind.i64.wrap (i5 + 1))) K)) else none) else K (Exit.exit 0) (tx14x15_0_1 N0 x) (hx14x15_0_1 N0 x)) := by kernel_rfl
    rw [h]
    simp only [decide_self, decide_true, Nat.zero_add, Bool.and_true, Bool.true_and, cond_true, law14x15_0, leq14x15_0 N0 x K n]
theorem rest14x15_0_0 (N0 : Nat) (x : Sh.Ts [(Sh.int IntKind.i64).sl]) (w8 : Int) : rk14x15_0 N0 (Exit.ret) (tx14x15_0_0 N0 x w8) (hx14x15_0_0 N0 x w8) = some ((w8, ())) := by kernel_rfl
theorem rest14x15_0_1 (N0 : Nat) (x : Sh.Ts [(Sh.int IntKind.i64).sl]) : rk14x15_0 N0 (Exit.exit 0) (tx14x15_0_1 N0 x) (hx14x15_0_1 N0 x) = some ((-1, ())) := by kernel_rfl
noncomputable def law14x15 (N0 : Nat) (x : ((List Int) × Unit)) (xs : (Unit)) : Option ((Int × Unit)) := (law14x15_0 N0 x (fun w8 => some ((w8, ()))) (some ((-1, ()))) N0 0)
theorem eq14x15 (N0 : Nat) (x : Sh.Ts [(Sh.int IntKind.i64).sl]) (xs : Sh.Ts []) : codeLawC Try.prog env14x15 200 (L14x15 N0) Try.f14 c14x15 [.sl (.int .i64)] 15 [] [.int .i64] x xs = law14x15 N0 x xs := by
  have h : codeLawC Try.prog env14x15 200 (L14x15 N0) Try.f14 c14x15 [.sl (.int .i64)] 15 [] [.int .i64] x xs = (ln14x15_0 N0 N0 (t14x15_0 N0 x 0) (h14x15_0 N0 x 0) (rk14x15_0 N0)) := by kernel_rfl
  rw [h]
  unfold law14x15
  simp only [decide_self, decide_true, Nat.zero_add, Bool.and_true, Bool.true_and, cond_true, leq14x15_0, rest14x15_0_0, rest14x15_0_1]
noncomputable def fn14x15 (x : ((List Int) × Unit)) (xs : (Unit)) : Option ((Int × Unit)) := law14x15 (10 ^ 30) x xs
theorem reads14x15 : ReadsC Try.prog 14 [.sl (.int .i64)] 15 [] [.int .i64] fn14x15 := (ReadsC.of_code mixed (fn := Try.f14) (c := c14x15) Try.func14 (by kernel_rfl) (by kernel_rfl) env14x15 200 (L14x15_fit _) (by kernel_rfl)).to (eq14x15 _)
noncomputable def s14x15 : Summ Try.prog := reads14x15.summ (by kernel_rfl)
noncomputable def s14 : Summ Try.prog := s14x15
/- chicane/car.Right -/
noncomputable def c7 : Code := (Try.f7.body.getD .skip)
noncomputable def env7 : Env Try.prog := [s13, s14, s15]
noncomputable def L7 : Loops Try.prog := []
theorem L7_fit : (L7).fit c7 := Loops.fit_nil
noncomputable def law7 (x : (CarT × Unit)) : Option ((Int × Int × Unit)) := (Option.bind (fn13 x) fun v0 => (Option.bind (fn14x15 (v0, ()) ()) fun v1 => (bif decide (v1.fst < 0) then some ((0, 0, ())) else (bif decide (0 ≤ v1.fst) && decide (v1.fst < (↑v0.length : Int)) then (Option.bind (v0[Int.toNat v1.fst]?) fun v2 => some ((v2, v1.fst, ()))) else none))))
theorem eq7 (x : Sh.Ts [CarSh]) : codeLaw Try.prog env7 200 (L7) Try.f7 c7 [CarSh] [.int .i64, .int .i64] x = law7 x := by
  have h : codeLaw Try.prog env7 200 (L7) Try.f7 c7 [CarSh] [.int .i64, .int .i64] x = (bif decide (List.length x.fst.snd.snd.snd.snd.fst = List.length x.fst.snd.snd.snd.snd.fst) && (decide (List.length x.fst.snd.snd.snd.snd.snd.fst.fst = List.length x.fst.snd.snd.snd.snd.snd.fst.fst) && (decide (List.length x.fst.snd.snd.snd.snd.snd.fst.snd.fst = List.length x.fst.snd.snd.snd.snd.snd.fst.snd.fst) && (decide (List.length x.fst.snd.snd.snd.snd.snd.fst.snd.snd.fst = List.length x.fst.snd.snd.snd.snd.snd.fst.snd.snd.fst) && true)) && (decide (List.length x.fst.snd.snd.snd.snd.snd.snd.fst = List.length x.fst.snd.snd.snd.snd.snd.snd.fst) && (decide (List.length x.fst.snd.snd.snd.snd.snd.snd.snd.fst = List.length x.fst.snd.snd.snd.snd.snd.snd.snd.fst) && (decide (List.length x.fst.snd.snd.snd.snd.snd.snd.snd.snd.snd.snd.snd.snd.snd.snd.snd.snd.fst = List.length x.fst.snd.snd.snd.snd.snd.snd.snd.snd.snd.snd.snd.snd.snd.snd.snd.snd.fst) && true)))) && true then (Option.bind (fn13 x) fun v0 => (bif decide (v0.length = v0.length) && true && true then (Option.bind (fn14x15 (v0, ()) ()) fun v1 => (bif decide (v1.fst < 0) then some ((0, 0, ())) else (bif decide (0 ≤ v1.fst) && decide (v1.fst < (↑v0.length : Int)) then (Option.bind (v0[0 + Int.toNat v1.fst]?) fun v2 => some ((v2, v1.fst, ()))) else none))) else none)) else none) := by kernel_rfl
  rw [h]
  unfold law7
  simp only [decide_self, decide_true, Nat.zero_add, Bool.and_true, Bool.true_and, cond_true]
noncomputable def fn7 (x : (CarT × Unit)) : Option ((Int × Int × Unit)) := law7 x
theorem reads7 : Reads Try.prog 7 [CarSh] [.int .i64, .int .i64] fn7 := (Reads.of_code mixed (fn := Try.f7) (c := c7) Try.func7 (by kernel_rfl) (by kernel_rfl) env7 200 (L7_fit) (by kernel_rfl)).to (eq7)
noncomputable def s7 : Summ Try.prog := reads7.summ
/- chicane/chicaneref17.whole -/
noncomputable def c20 : Code := (Try.f20.body.getD .skip)
noncomputable def env20 : Env Try.prog := []
noncomputable def L20 : Loops Try.prog := []
theorem L20_fit : (L20).fit c20 := Loops.fit_nil
noncomputable def law20 (x : (Int × Unit)) : Option ((Int × Unit)) := some ((IntKind.i64.wrap (x.fst * 4294967296), ()))
theorem eq20 (x : Sh.Ts [Sh.int IntKind.i64]) : codeLaw Try.prog env20 200 (L20) Try.f20 c20 [.int .i64] [.int .i64] x = law20 x := by kernel_rfl
noncomputable def fn20 (x : (Int × Unit)) : Option ((Int × Unit)) := law20 x
theorem reads20 : Reads Try.prog 20 [.int .i64] [.int .i64] fn20 := (Reads.of_code mixed (fn := Try.f20) (c := c20) Try.func20 (by kernel_rfl) (by kernel_rfl) env20 200 (L20_fit) (by kernel_rfl)).to (eq20)
noncomputable def s20 : Summ Try.prog := reads20.summ
/- chicane/chicaneref17.in -/
noncomputable def c19 : Code := (Try.f19.body.getD .skip)
noncomputable def env19 : Env Try.prog := []
noncomputable def L19 : Loops Try.prog := []
theorem L19_fit : (L19).fit c19 := Loops.fit_nil
noncomputable def law19 (x : (Int × Int × Int × Unit)) : Option ((Bool × Unit)) := (bif decide (x.fst ≥ x.snd.fst) then some ((decide (x.fst ≤ x.snd.snd.fst), ())) else some ((false, ())))
theorem eq19 (x : Sh.Ts [Sh.int IntKind.i64, Sh.int IntKind.i64, Sh.int IntKind.i64]) : codeLaw Try.prog env19 200 (L19) Try.f19 c19 [.int .i64, .int .i64, .int .i64] [.bool] x = law19 x := by kernel_rfl
noncomputable def fn19 (x : (Int × Int × Int × Unit)) : Option ((Bool × Unit)) := law19 x
theorem reads19 : Reads Try.prog 19 [.int .i64, .int .i64, .int .i64] [.bool] fn19 := (Reads.of_code mixed (fn := Try.f19) (c := c19) Try.func19 (by kernel_rfl) (by kernel_rfl) env19 200 (L19_fit) (by kernel_rfl)).to (eq19)
noncomputable def s19 : Summ Try.prog := reads19.summ
/- chicane/chicaneref17.body -/
noncomputable def c17 : Code := (Try.f17.body.getD .skip)
noncomputable def env17 : Env Try.prog := [s20, s19]
noncomputable def L17 : Loops Try.prog := []
theorem L17_fit : (L17).fit c17 := Loops.fit_nil
noncomputable def law17 (x : (CarT × Unit)) : Option ((Bool × Unit)) := (Option.bind (fn19 (x.fst.fst, IntKind.i64.wrap (64 * 4294967296), IntKind.i64.wrap (8192 * 4294967296), ())) fun v0 => (bif v0.fst then (Option.bind (fn19 (x.fst.snd.fst.fst, IntKind.i64.wrap (16 * 4294967296), IntKind.i64.wrap (65536 * 4294967296), ())) fun v1 => (bif v1.fst then (Option.bind (fn19 (x.fst.snd.fst.snd.fst, IntKind.i64.wrap (16 * 4294967296), IntKind.i64.wrap (65536 * 4294967296), ())) fun v2 => (bif v2.fst then (Option.bind (fn19 (x.fst.snd.fst.snd.snd.fst, IntKind.i64.wrap (16 * 4294967296), IntKind.i64.wrap (65536 * 4294967296), ())) fun v3 => (bif v3.fst then (Option.bind (fn19 (x.fst.snd.snd.snd.snd.snd.snd.snd.snd.snd.snd.snd.snd.snd.snd.snd.snd.snd.snd.snd.snd.snd.snd.snd.snd.snd.fst, 2147483648, IntKind.i64.wrap (4 * 4294967296), ())) fun v4 => (bif v4.fst then (Option.bind (fn19 (x.fst.snd.snd.snd.snd.snd.snd.snd.snd.snd.snd.snd.snd.snd.snd.snd.snd.snd.snd.snd.snd.snd.snd.snd.snd.snd.snd.fst, 0, 4294967296, ())) fun v5 => (bif v5.fst then (Option.bind (fn19 (x.fst.snd.snd.snd.snd.snd.snd.snd.snd.snd.snd.snd.snd.snd.snd.snd.snd.snd.snd.snd.snd.snd.snd.snd.snd.snd.snd.snd.fst, 0, 4294967296, ())) fun v6 => some ((v6.fst, ()))) else some ((false, ())))) else some ((false, ())))) else some ((false, ())))) else some ((false, ())))) else some ((false, ())))) else some ((false, ()))))
theorem eq17 (x : Sh.Ts [CarSh]) : codeLaw Try.prog env17 200 (L17) Try.f17 c17 [CarSh] [.bool] x = law17 x := by kernel_rfl
noncomputable def fn17 (x : (CarT × Unit)) : Option ((Bool × Unit)) := law17 x
theorem reads17 : Reads Try.prog 17 [CarSh] [.bool] fn17 := (Reads.of_code mixed (fn := Try.f17) (c := c17) Try.func17 (by kernel_rfl) (by kernel_rfl) env17 200 (L17_fit) (by kernel_rfl)).to (eq17)
noncomputable def s17 : Summ Try.prog := reads17.summ
/- chicane/chicaneref17.ranged -/
noncomputable def c16 : Code := (Try.f16.body.getD .skip)
noncomputable def env16 : Env Try.prog := []
noncomputable def L16 : Loops Try.prog := []
theorem L16_fit : (L16).fit c16 := Loops.fit_nil
noncomputable def law16 (x : (Bool × Unit)) : Option ((Int × Unit)) := (bif x.fst then some ((0, ())) else some ((40, ())))
theorem eq16 (x : Sh.Ts [Sh.bool]) : codeLaw Try.prog env16 200 (L16) Try.f16 c16 [.bool] [.int .i64] x = law16 x := by kernel_rfl
noncomputable def fn16 (x : (Bool × Unit)) : Option ((Int × Unit)) := law16 x
theorem reads16 : Reads Try.prog 16 [.bool] [.int .i64] fn16 := (Reads.of_code mixed (fn := Try.f16) (c := c16) Try.func16 (by kernel_rfl) (by kernel_rfl) env16 200 (L16_fit) (by kernel_rfl)).to (eq16)
noncomputable def s16 : Summ Try.prog := reads16.summ
/- chicane/chicaneref17.wheel -/
noncomputable def c18 : Code := (Try.f18.body.getD .skip)
noncomputable def env18 : Env Try.prog := [s20, s19]
noncomputable def L18 : Loops Try.prog := []
theorem L18_fit : (L18).fit c18 := Loops.fit_nil
noncomputable def law18 (x : (WheelT × Unit)) : Option ((Bool × Unit)) := (Option.bind (fn19 (x.fst.fst.fst, IntKind.i64.wrap (-4 * 4294967296), IntKind.i64.wrap (4 * 4294967296), ())) fun v0 => (bif v0.fst then (Option.bind (fn19 (x.fst.fst.snd.fst, IntKind.i64.wrap (-4 * 4294967296), IntKind.i64.wrap (4 * 4294967296), ())) fun v1 => (bif v1.fst then (Option.bind (fn19 (x.fst.fst.snd.snd.fst, IntKind.i64.wrap (-2 * 4294967296), IntKind.i64.wrap (2 * 4294967296), ())) fun v2 => (bif v2.fst then (Option.bind (fn19 (x.fst.snd.fst, 536870912, 4294967296, ())) fun v3 => (bif v3.fst then (Option.bind (fn19 (x.fst.snd.snd.fst, 536870912, IntKind.i64.wrap (64 * 4294967296), ())) fun v4 => (bif v4.fst then (Option.bind (fn19 (x.fst.snd.snd.snd.fst, IntKind.i64.wrap (1024 * 4294967296), IntKind.i64.wrap (262144 * 4294967296), ())) fun v5 => (bif v5.fst then (Option.bind (fn19 (x.fst.snd.snd.snd.snd.fst, 67108864, 2147483648, ())) fun v6 => (bif v6.fst then (Option.bind (fn19 (x.fst.snd.snd.snd.snd.snd.fst, 0, IntKind.i64.wrap (1048576 * 4294967296), ())) fun v7 => some ((v7.fst, ()))) else some ((false, ())))) else some ((false, ())))) else some ((false, ())))) else some ((false, ())))) else some ((false, ())))) else some ((false, ())))) else some ((false, ()))))
theorem eq18 (x : Sh.Ts [WheelSh]) : codeLaw Try.prog env18 200 (L18) Try.f18 c18 [WheelSh] [.bool] x = law18 x := by kernel_rfl
noncomputable def fn18 (x : (WheelT × Unit)) : Option ((Bool × Unit)) := law18 x
theorem reads18 : Reads Try.prog 18 [WheelSh] [.bool] fn18 := (Reads.of_code mixed (fn := Try.f18) (c := c18) Try.func18 (by kernel_rfl) (by kernel_rfl) env18 200 (L18_fit) (by kernel_rfl)).to (eq18)
noncomputable def s18 : Summ Try.prog := reads18.summ
/- chicane/chicaneref08.in -/
noncomputable def c55 : Code := (Try.f55.body.getD .skip)
noncomputable def env55 : Env Try.prog := []
noncomputable def L55 : Loops Try.prog := []
theorem L55_fit : (L55).fit c55 := Loops.fit_nil
noncomputable def law55 (x : (Int × Int × Unit)) : Option ((Bool × Unit)) := (bif decide (x.fst ≤ x.snd.fst) then some ((decide (x.fst ≥ IntKind.i64.wrap (0 - x.snd.fst)), ())) else some ((false, ())))
theorem eq55 (x : Sh.Ts [Sh.int IntKind.i64, Sh.int IntKind.i64]) : codeLaw Try.prog env55 200 (L55) Try.f55 c55 [.int .i64, .int .i64] [.bool] x = law55 x := by kernel_rfl
noncomputable def fn55 (x : (Int × Int × Unit)) : Option ((Bool × Unit)) := law55 x
theorem reads55 : Reads Try.prog 55 [.int .i64, .int .i64] [.bool] fn55 := (Reads.of_code mixed (fn := Try.f55) (c := c55) Try.func55 (by kernel_rfl) (by kernel_rfl) env55 200 (L55_fit) (by kernel_rfl)).to (eq55)
noncomputable def s55 : Summ Try.prog := reads55.summ
/- chicane/chicaneref08.Right -/
noncomputable def c40 : Code := (Try.f40.body.getD .skip)
noncomputable def env40 : Env Try.prog := [s55]
noncomputable def b40o0 : Code := ((kid ((subAt c40 [0, 1, 0, 1, 1]).getD .skip) 0).getD .skip)
noncomputable def kx40o0 : Exit → List Nat | .ret => [2] | _ => []
noncomputable def Li40o0 (N0 : Nat) : Loops Try.prog := []
noncomputable def ls40o0 (N0 : Nat) : LSumm Try.prog := loopSumm mixed env40 200 (Li40o0 N0) b40o0 (Loops.fit_nil) [0, 3] kx40o0 (N0)
noncomputable def ln40o0 {β : Type} (N0 : Nat) (n : Nat) (t : List AV) (h : Heap) (K : Exit → List AV → Heap → Option β) : Option β := loopN Try.prog env40 (Sh.nes [.sl (DotSh)]) 200 (Li40o0 N0) b40o0 [0, 3] kx40o0 n t h K
noncomputable def L40 (N0 : Nat) : Loops Try.prog := [([0, 1, 0, 1, 1], ls40o0 N0)]
theorem L40_fit (N0 : Nat) : (L40 N0).fit c40 := Loops.fit_cons (by kernel_rfl) (Loops.fit_nil)
noncomputable def K40 : Exit → List AV → Heap → Option (Sh.Ts [.int .i64]) := fun e t h => outK (P := Try.prog) Try.f40 [.int .i64] e t h
noncomputable def rk40o0 (N0 : Nat) : Exit → List AV → Heap → Option (Sh.Ts [.int .i64]) := (blkK 0 (seqK Try.prog env40 (Sh.nes [.sl (DotSh)]) 197 (L40 N0) [1, 1, 1] ((subAt c40 [1, 1, 1]).getD .skip) K40))
noncomputable def t40o0 (N0 : Nat) (x : Sh.Ts [DotSh.sl]) (i9 : Int) : List AV := [AV.slc 0 0 (List.length x.fst) Cap.low, AV.any, AV.any, AV.val (Value.int IntKind.i64 i9), AV.any, AV.any, AV.any, AV.any, AV.any, AV.any, AV.any, AV.any, AV.any, AV.any, AV.any, AV.any, AV.any, AV.any, AV.any, AV.any, AV.any, AV.any, AV.any, AV.any, AV.any, AV.any, AV.any, AV.any, AV.any, AV.any, AV.any, AV.any, AV.any, AV.any, AV.any, AV.any, AV.any, AV.any, AV.any, AV.any, AV.any, AV.any, AV.any, AV.any, AV.any, AV.any, AV.any, AV.any, AV.any, AV.any]
noncomputable def h40o0 (N0 : Nat) (x : Sh.Ts [DotSh.sl]) (i9 : Int) : Heap := [Ent.live (Blk.mk (Cells.arr (Sh.st [Sh.int IntKind.i64, Sh.int IntKind.i64]) x.fst) false none)]
noncomputable def tx40o0o0 (N0 : Nat) (x : Sh.Ts [DotSh.sl]) (w16 : Int) : List AV := [AV.any, AV.any, AV.val (Value.int IntKind.i64 w16), AV.any, AV.any, AV.any, AV.any, AV.any, AV.any, AV.any, AV.any, AV.any, AV.any, AV.any, AV.any, AV.any, AV.any, AV.any, AV.any, AV.any, AV.any, AV.any, AV.any, AV.any, AV.any, AV.any, AV.any, AV.any, AV.any, AV.any, AV.any, AV.any, AV.any, AV.any, AV.any, AV.any, AV.any, AV.any, AV.any, AV.any, AV.any, AV.any, AV.any, AV.any, AV.any, AV.any, AV.any, AV.any, AV.any, AV.any]
noncomputable def hx40o0o0 (N0 : Nat) (x : Sh.Ts [DotSh.sl]) (w16 : Int) : Heap := [Ent.live (Blk.mk (Cells.arr (Sh.st [Sh.int IntKind.i64, Sh.int IntKind.i64]) x.fst) false none)]
noncomputable def tx40o0o1 (N0 : Nat) (x : Sh.Ts [DotSh.sl]) : List AV := [AV.any, AV.any, AV.any, AV.any, AV.any, AV.any, AV.any, AV.any, AV.any, AV.any, AV.any, AV.any, AV.any, AV.any, AV.any, AV.any, AV.any, AV.any, AV.any, AV.any, AV.any, AV.any, AV.any, AV.any, AV.any, AV.any, AV.any, AV.any, AV.any, AV.any, AV.any, AV.any, AV.any, AV.any, AV.any, AV.any, AV.any, AV.any, AV.any, AV.any, AV.any, AV.any, AV.any, AV.any, AV.any, AV.any, AV.any, AV.any, AV.any, AV.any]
noncomputable def hx40o0o1 (N0 : Nat) (x : Sh.Ts [DotSh.sl]) : Heap := [Ent.live (Blk.mk (Cells.arr (Sh.st [Sh.int IntKind.i64, Sh.int IntKind.i64]) x.fst) false none)]
noncomputable def law40o0 {β : Type} (N0 : Nat) (x : ((List DotT) × Unit)) (k0 : Int → Option β) (k1 : Option β) : Nat → Int → Option β
  | 0, _ => none
  | n + 1, i9 => (bif decide (i9 < (↑(List.length x.fst) : Int)) then (bif decide (0 ≤ i9) && decide (i9 < (↑(List.length x.fst) : Int)) then (Option.bind x.fst[i9.toNat]? fun v10 => (Option.bind (fn55 (v10.fst, 4503599627370496, ())) fun v11 => (bif !v11.fst then k0 40 else (bif decide (0 ≤ i9) && decide (i9 < (↑(List.length x.fst) : Int)) then (Option.bind x.fst[i9.toNat]? fun v12 => (Option.bind (fn55 (v12.snd.fst, 4503599627370496, ())) fun v13 => (bif !v13.fst then k0 40 else (bif decide (i9 > 0) then (bif decide (0 ≤ i9) && decide (i9 < (↑(List.length x.fst) : Int)) then (Option.bind x.fst[i9.toNat]? fun v14 => (bif decide (0 ≤ IntKind.i64.wrap (i9 - 1)) && decide (IntKind.i64.wrap (i9 - 1) < (↑(List.length x.fst) : Int)) then (Option.bind (x.fst[(IntKind.i64.wrap (i9 - 1)).toNat]?) fun v15 => (bif decide (v14.fst ≤ v15.fst) then k0 41 else law40o0 N0 x k0 k1 n (IntKind.i64.wrap (i9 + 1)))) else none)) else none) else law40o0 N0 x k0 k1 n (IntKind.i64.wrap (i9 + 1)))))) else none)))) else none) else k1)
theorem leq40o0 {β : Type} (N0 : Nat) (x : Sh.Ts [DotSh.sl]) (K : Exit → List AV → Heap → Option β) : ∀ (n : Nat) (i9 : Int), ln40o0 N0 n (t40o0 N0 x i9) (h40o0 N0 x i9) K = law40o0 N0 x (fun w16 => K (Exit.ret) (tx40o0o0 N0 x w16) (hx40o0o0 N0 x w16)) (K (Exit.exit 0) (tx40o0o1 N0 x) (hx40o0o1 N0 x)) n i9
  | 0, _ => rfl
  | n + 1, i9 => by
    have h : ln40o0 N0 (n + 1) (t40o0 N0 x i9) (h40o0 N0 x i9) K = (bif decide (i9 < (↑(List.length x.fst) : Int)) then (bif decide (0 ≤ i9) && decide (i9 < (↑(List.length x.fst) : Int)) then (Option.bind x.fst[i9.toNat]? fun v10 => (Option.bind (fn55 (v10.fst, 4503599627370496, ())) fun v11 => (bif !v11.fst then K (Exit.ret) (tx40o0o0 N0 x 40) (hx40o0o0 N0 x 40) else (bif decide (0 ≤ i9) && decide (i9 < (↑(List.length x.fst) : Int)) then (Option.bind x.fst[i9.toNat]? fun v12 => (Option.bind (fn55 (v12.snd.fst, 4503599627370496, ())) fun v13 => (bif !v13.fst then K (Exit.ret) (tx40o0o0 N0 x 40) (hx40o0o0 N0 x 40) else (bif decide (i9 > 0) then (bif decide (0 ≤ i9) && decide (i9 < (↑(List.length x.fst) : Int)) then (Option.bind x.fst[i9.toNat]? fun v14 => (bif decide (0 ≤ IntKind.i64.wrap (i9 - 1)) && decide (IntKind.i64.wrap (i9 - 1) < (↑(List.length x.fst) : Int)) then (Option.bind (x.fst[(IntKind.i64.wrap (i9 - 1)).toNat]?) fun v15 => (bif decide (v14.fst ≤ v15.fst) then K (Exit.ret) (tx40o0o0 N0 x 41) (hx40o0o0 N0 x 41) else ln40o0 N0 n (t40o0 N0 x (IntKind.i64.wrap (i9 + 1))) (h40o0 N0 x (IntKind.i64.wrap (i9 + 1))) K)) else none)) else none) else ln40o0 N0 n (t40o0 N0 x (IntKind.i64.wrap (i9 + 1))) (h40o0 N0 x (IntKind.i64.wrap (i9 + 1))) K)))) else none)))) else none) else K (Exit.exit 0) (tx40o0o1 N0 x) (hx40o0o1 N0 x)) := by kernel_rfl
    rw [h]
    simp only [decide_self, decide_true, Nat.zero_add, Bool.and_true, Bool.true_and, cond_true, law40o0, leq40o0 N0 x K n]
theorem rest40o0o0 (N0 : Nat) (x : Sh.Ts [DotSh.sl]) (w17 : Int) : rk40o0 N0 (Exit.ret) (tx40o0o0 N0 x w17) (hx40o0o0 N0 x w17) = some ((w17, ())) := by kernel_rfl
theorem rest40o0o1 (N0 : Nat) (x : Sh.Ts [DotSh.sl]) : rk40o0 N0 (Exit.exit 0) (tx40o0o1 N0 x) (hx40o0o1 N0 x) = some ((0, ())) := by kernel_rfl
noncomputable def law40 (N0 : Nat) (x : ((List DotT) × Unit)) : Option ((Int × Unit)) := (bif decide ((↑(List.length x.fst) : Int) < 2) then some ((42, ())) else (bif decide ((↑(List.length x.fst) : Int) > 32) then some ((42, ())) else (law40o0 N0 x (fun w17 => some ((w17, ()))) (some ((0, ()))) N0 0)))
theorem eq40 (N0 : Nat) (x : Sh.Ts [DotSh.sl]) : codeLaw Try.prog env40 200 (L40 N0) Try.f40 c40 [.sl (DotSh)] [.int .i64] x = law40 N0 x := by
  have h : codeLaw Try.prog env40 200 (L40 N0) Try.f40 c40 [.sl (DotSh)] [.int .i64] x = (bif decide ((↑(List.length x.fst) : Int) < 2) then some ((42, ())) else (bif decide ((↑(List.length x.fst) : Int) > 32) then some ((42, ())) else (ln40o0 N0 N0 (t40o0 N0 x 0) (h40o0 N0 x 0) (rk40o0 N0)))) := by kernel_rfl
  rw [h]
  unfold law40
  simp only [decide_self, decide_true, Nat.zero_add, Bool.and_true, Bool.true_and, cond_true, leq40o0, rest40o0o0, rest40o0o1]
noncomputable def fn40 (x : ((List DotT) × Unit)) : Option ((Int × Unit)) := law40 (10 ^ 30) x
theorem reads40 : Reads Try.prog 40 [.sl (DotSh)] [.int .i64] fn40 := (Reads.of_code mixed (fn := Try.f40) (c := c40) Try.func40 (by kernel_rfl) (by kernel_rfl) env40 200 (L40_fit _) (by kernel_rfl)).to (eq40 _)
noncomputable def s40 : Summ Try.prog := reads40.summ
/- chicane/chicaneref17.dots -/
noncomputable def c21 : Code := (Try.f21.body.getD .skip)
noncomputable def env21 : Env Try.prog := [s40, s19]
noncomputable def b21o0 : Code := ((kid ((subAt c21 [0, 1, 0, 1, 1]).getD .skip) 0).getD .skip)
noncomputable def kx21o0 : Exit → List Nat | .ret => [8] | .exit 0 => [9] | _ => []
noncomputable def Li21o0 (N0 : Nat) : Loops Try.prog := []
noncomputable def ls21o0 (N0 : Nat) : LSumm Try.prog := loopSumm mixed env21 200 (Li21o0 N0) b21o0 (Loops.fit_nil) [0, 1, 2, 3, 9, 10] kx21o0 (N0)
noncomputable def ln21o0 {β : Type} (N0 : Nat) (n : Nat) (t : List AV) (h : Heap) (K : Exit → List AV → Heap → Option β) : Option β := loopN Try.prog env21 (Sh.nes [.sl (DotSh), .int .i64, .int .i64, .bool]) 200 (Li21o0 N0) b21o0 [0, 1, 2, 3, 9, 10] kx21o0 n t h K
noncomputable def L21 (N0 : Nat) : Loops Try.prog := [([0, 1, 0, 1, 1], ls21o0 N0)]
theorem L21_fit (N0 : Nat) : (L21 N0).fit c21 := Loops.fit_cons (by kernel_rfl) (Loops.fit_nil)
noncomputable def K21 : Exit → List AV → Heap → Option (Sh.Ts [.int .i64]) := fun e t h => outK (P := Try.prog) Try.f21 [.int .i64] e t h
noncomputable def rk21o0 (N0 : Nat) : Exit → List AV → Heap → Option (Sh.Ts [.int .i64]) := (blkK 0 (seqK Try.prog env21 (Sh.nes [.sl (DotSh), .int .i64, .int .i64, .bool]) 197 (L21 N0) [1, 1, 1] ((subAt c21 [1, 1, 1]).getD .skip) K21))
noncomputable def t21o0 (N0 : Nat) (x : Sh.Ts [DotSh.sl, Sh.int IntKind.i64, Sh.int IntKind.i64, Sh.bool]) (v0 : Sh.Ts [Sh.int IntKind.i64]) (i16 : Int) : List AV := [AV.slc 0 0 (List.length x.fst) Cap.low, AV.val (Value.int IntKind.i64 x.snd.fst), AV.val (Value.int IntKind.i64 x.snd.snd.fst), AV.val (Value.bool x.snd.snd.snd.fst), AV.any, AV.any, AV.any, AV.any, AV.any, AV.val (Value.int IntKind.i64 v0.fst), AV.val (Value.int IntKind.i64 i16), AV.any, AV.any, AV.any, AV.any, AV.any, AV.any, AV.any, AV.any, AV.any, AV.any, AV.any, AV.any, AV.any, AV.any, AV.any, AV.any, AV.any, AV.any, AV.any, AV.any, AV.any, AV.any, AV.any, AV.any, AV.any, AV.any, AV.any, AV.any, AV.any, AV.any, AV.any, AV.any, AV.any, AV.any, AV.any, AV.any, AV.any, AV.any, AV.any, AV.any, AV.any, AV.any, AV.any, AV.any, AV.any, AV.any, AV.any, AV.any, AV.any, AV.any, AV.any, AV.any, AV.any, AV.any, AV.any, AV.any, AV.any]
noncomputable def h21o0 (N0 : Nat) (x : Sh.Ts [DotSh.sl, Sh.int IntKind.i64, Sh.int IntKind.i64, Sh.bool]) (v0 : Sh.Ts [Sh.int IntKind.i64]) (i16 : Int) : Heap := [Ent.live (Blk.mk (Cells.arr (Sh.st [Sh.int IntKind.i64, Sh.int IntKind.i64]) x.fst) false none)]
noncomputable def tx21o0o0 (N0 : Nat) (x : Sh.Ts [DotSh.sl, Sh.int IntKind.i64, Sh.int IntKind.i64, Sh.bool]) (v0 : Sh.Ts [Sh.int IntKind.i64]) : List AV := [AV.any, AV.any, AV.any, AV.any, AV.any, AV.any, AV.any, AV.any, AV.val (Value.int IntKind.i64 40), AV.any, AV.any, AV.any, AV.any, AV.any, AV.any, AV.any, AV.any, AV.any, AV.any, AV.any, AV.any, AV.any, AV.any, AV.any, AV.any, AV.any, AV.any, AV.any, AV.any, AV.any, AV.any, AV.any, AV.any, AV.any, AV.any, AV.any, AV.any, AV.any, AV.any, AV.any, AV.any, AV.any, AV.any, AV.any, AV.any, AV.any, AV.any, AV.any, AV.any, AV.any, AV.any, AV.any, AV.any, AV.any, AV.any, AV.any, AV.any, AV.any, AV.any, AV.any, AV.any, AV.any, AV.any, AV.any, AV.any, AV.any, AV.any, AV.any]
noncomputable def hx21o0o0 (N0 : Nat) (x : Sh.Ts [DotSh.sl, Sh.int IntKind.i64, Sh.int IntKind.i64, Sh.bool]) (v0 : Sh.Ts [Sh.int IntKind.i64]) : Heap := [Ent.live (Blk.mk (Cells.arr (Sh.st [Sh.int IntKind.i64, Sh.int IntKind.i64]) x.fst) false none)]
noncomputable def tx21o0o1 (N0 : Nat) (x : Sh.Ts [DotSh.sl, Sh.int IntKind.i64, Sh.int IntKind.i64, Sh.bool]) (v0 : Sh.Ts [Sh.int IntKind.i64]) : List AV := [AV.any, AV.any, AV.any, AV.any, AV.any, AV.any, AV.any, AV.any, AV.any, AV.val (Value.int IntKind.i64 v0.fst), AV.any, AV.any, AV.any, AV.any, AV.any, AV.any, AV.any, AV.any, AV.any, AV.any, AV.any, AV.any, AV.any, AV.any, AV.any, AV.any, AV.any, AV.any, AV.any, AV.any, AV.any, AV.any, AV.any, AV.any, AV.any, AV.any, AV.any, AV.any, AV.any, AV.any, AV.any, AV.any, AV.any, AV.any, AV.any, AV.any, AV.any, AV.any, AV.any, AV.any, AV.any, AV.any, AV.any, AV.any, AV.any, AV.any, AV.any, AV.any, AV.any, AV.any, AV.any, AV.any, AV.any, AV.any, AV.any, AV.any, AV.any, AV.any]
noncomputable def hx21o0o1 (N0 : Nat) (x : Sh.Ts [DotSh.sl, Sh.int IntKind.i64, Sh.int IntKind.i64, Sh.bool]) (v0 : Sh.Ts [Sh.int IntKind.i64]) : Heap := [Ent.live (Blk.mk (Cells.arr (Sh.st [Sh.int IntKind.i64, Sh.int IntKind.i64]) x.fst) false none)]
noncomputable def law21o0 {β : Type} (N0 : Nat) (x : ((List DotT) × Int × Int × Bool × Unit)) (v0 : (Int × Unit)) (k0 : Option β) (k1 : Option β) : Nat → Int → Option β
  | 0, _ => none
  | n + 1, i16 => (bif decide (i16 < (↑(List.length x.fst) : Int)) then (bif v0.fst == 0 then (bif decide (0 ≤ i16) && decide (i16 < (↑(List.length x.fst) : Int)) then (Option.bind x.fst[i16.toNat]? fun v17 => (Option.bind (fn19 (v17.snd.fst, x.snd.fst, x.snd.snd.fst, ())) fun v18 => (bif !v18.fst then k0 else (bif x.snd.snd.snd.fst then (bif decide (0 ≤ i16) && decide (i16 < (↑(List.length x.fst) : Int)) then (Option.bind x.fst[i16.toNat]? fun v19 => (bif decide (v19.fst > 0) then (bif decide (0 ≤ i16) && decide (i16 < (↑(List.length x.fst) : Int)) then (Option.bind x.fst[i16.toNat]? fun v20 => (bif decide (v20.snd.fst < 0) then k0 else (bif decide (0 ≤ i16) && decide (i16 < (↑(List.length x.fst) : Int)) then (Option.bind x.fst[i16.toNat]? fun v21 => (bif decide (v21.fst < 0) then (bif decide (0 ≤ i16) && decide (i16 < (↑(List.length x.fst) : Int)) then (Option.bind x.fst[i16.toNat]? fun v22 => (bif decide (v22.snd.fst > 0) then k0 else law21o0 N0 x v0 k0 k1 n (IntKind.i64.wrap (i16 + 1)))) else none) else law21o0 N0 x v0 k0 k1 n (IntKind.i64.wrap (i16 + 1)))) else none))) else none) else (bif decide (0 ≤ i16) && decide (i16 < (↑(List.length x.fst) : Int)) then (Option.bind x.fst[i16.toNat]? fun v23 => (bif decide (v23.fst < 0) then (bif decide (0 ≤ i16) && decide (i16 < (↑(List.length x.fst) : Int)) then (Option.bind x.fst[i16.toNat]? fun v24 => (bif decide (v24.snd.fst > 0) then k0 else law21o0 N0 x v0 k0 k1 n (IntKind.i64.wrap (i16 + 1)))) else none) else law21o0 N0 x v0 k0 k1 n (IntKind.i64.wrap (i16 + 1)))) else none))) else none) else law21o0 N0 x v0 k0 k1 n (IntKind.i64.wrap (i16 + 1)))))) else none) else k1) else k1)
theorem leq21o0 {β : Type} (N0 : Nat) (x : Sh.Ts [DotSh.sl, Sh.int IntKind.i64, Sh.int IntKind.i64, Sh.bool]) (v0 : Sh.Ts [Sh.int IntKind.i64]) (K : Exit → List AV → Heap → Option β) : ∀ (n : Nat) (i16 : Int), ln21o0 N0 n (t21o0 N0 x v0 i16) (h21o0 N0 x v0 i16) K = law21o0 N0 x v0 (K (Exit.ret) (tx21o0o0 N0 x v0) (hx21o0o0 N0 x v0)) (K (Exit.exit 0) (tx21o0o1 N0 x v0) (hx21o0o1 N0 x v0)) n i16
  | 0, _ => rfl
  | n + 1, i16 => by
    have h : ln21o0 N0 (n + 1) (t21o0 N0 x v0 i16) (h21o0 N0 x v0 i16) K = (bif decide (i16 < (↑(List.length x.fst) : Int)) then (bif v0.fst == 0 then (bif decide (0 ≤ i16) && decide (i16 < (↑(List.length x.fst) : Int)) then (Option.bind x.fst[i16.toNat]? fun v17 => (Option.bind (fn19 (v17.snd.fst, x.snd.fst, x.snd.snd.fst, ())) fun v18 => (bif !v18.fst then K (Exit.ret) (tx21o0o0 N0 x v0) (hx21o0o0 N0 x v0) else (bif x.snd.snd.snd.fst then (bif decide (0 ≤ i16) && decide (i16 < (↑(List.length x.fst) : Int)) then (Option.bind x.fst[i16.toNat]? fun v19 => (bif decide (v19.fst > 0) then (bif decide (0 ≤ i16) && decide (i16 < (↑(List.length x.fst) : Int)) then (Option.bind x.fst[i16.toNat]? fun v20 => (bif decide (v20.snd.fst < 0) then K (Exit.ret) (tx21o0o0 N0 x v0) (hx21o0o0 N0 x v0) else (bif decide (0 ≤ i16) && decide (i16 < (↑(List.length x.fst) : Int)) then (Option.bind x.fst[i16.toNat]? fun v21 => (bif decide (v21.fst < 0) then (bif decide (0 ≤ i16) && decide (i16 < (↑(List.length x.fst) : Int)) then (Option.bind x.fst[i16.toNat]? fun v22 => (bif decide (v22.snd.fst > 0) then K (Exit.ret) (tx21o0o0 N0 x v0) (hx21o0o0 N0 x v0) else ln21o0 N0 n (t21o0 N0 x v0 (IntKind.i64.wrap (i16 + 1))) (h21o0 N0 x v0 (IntKind.i64.wrap (i16 + 1))) K)) else none) else ln21o0 N0 n (t21o0 N0 x v0 (IntKind.i64.wrap (i16 + 1))) (h21o0 N0 x v0 (IntKind.i64.wrap (i16 + 1))) K)) else none))) else none) else (bif decide (0 ≤ i16) && decide (i16 < (↑(List.length x.fst) : Int)) then (Option.bind x.fst[i16.toNat]? fun v23 => (bif decide (v23.fst < 0) then (bif decide (0 ≤ i16) && decide (i16 < (↑(List.length x.fst) : Int)) then (Option.bind x.fst[i16.toNat]? fun v24 => (bif decide (v24.snd.fst > 0) then K (Exit.ret) (tx21o0o0 N0 x v0) (hx21o0o0 N0 x v0) else ln21o0 N0 n (t21o0 N0 x v0 (IntKind.i64.wrap (i16 + 1))) (h21o0 N0 x v0 (IntKind.i64.wrap (i16 + 1))) K)) else none) else ln21o0 N0 n (t21o0 N0 x v0 (IntKind.i64.wrap (i16 + 1))) (h21o0 N0 x v0 (IntKind.i64.wrap (i16 + 1))) K)) else none))) else none) else ln21o0 N0 n (t21o0 N0 x v0 (IntKind.i64.wrap (i16 + 1))) (h21o0 N0 x v0 (IntKind.i64.wrap (i16 + 1))) K)))) else none) else K (Exit.exit 0) (tx21o0o1 N0 x v0) (hx21o0o1 N0 x v0)) else K (Exit.exit 0) (tx21o0o1 N0 x v0) (hx21o0o1 N0 x v0)) := by kernel_rfl
    rw [h]
    simp only [decide_self, decide_true, Nat.zero_add, Bool.and_true, Bool.true_and, cond_true, law21o0, leq21o0 N0 x v0 K n]
theorem rest21o0o0 (N0 : Nat) (x : Sh.Ts [DotSh.sl, Sh.int IntKind.i64, Sh.int IntKind.i64, Sh.bool]) (v0 : Sh.Ts [Sh.int IntKind.i64]) : rk21o0 N0 (Exit.ret) (tx21o0o0 N0 x v0) (hx21o0o0 N0 x v0) = some ((40, ())) := by kernel_rfl
theorem rest21o0o1 (N0 : Nat) (x : Sh.Ts [DotSh.sl, Sh.int IntKind.i64, Sh.int IntKind.i64, Sh.bool]) (v0 : Sh.Ts [Sh.int IntKind.i64]) : rk21o0 N0 (Exit.exit 0) (tx21o0o1 N0 x v0) (hx21o0o1 N0 x v0) = some ((v0.fst, ())) := by kernel_rfl
noncomputable def law21 (N0 : Nat) (x : ((List DotT) × Int × Int × Bool × Unit)) : Option ((Int × Unit)) := (Option.bind (fn40 (x.fst, ())) fun v0 => (law21o0 N0 x v0 (some ((40, ()))) (some ((v0.fst, ()))) N0 0))
theorem eq21 (N0 : Nat) (x : Sh.Ts [DotSh.sl, Sh.int IntKind.i64, Sh.int IntKind.i64, Sh.bool]) : codeLaw Try.prog env21 200 (L21 N0) Try.f21 c21 [.sl (DotSh), .int .i64, .int .i64, .bool] [.int .i64] x = law21 N0 x := by
  have h : codeLaw Try.prog env21 200 (L21 N0) Try.f21 c21 [.sl (DotSh), .int .i64, .int .i64, .bool] [.int .i64] x = (bif decide (List.length x.fst = List.length x.fst) && true then (Option.bind (fn40 (x.fst, ())) fun v0 => (ln21o0 N0 N0 (t21o0 N0 x v0 0) (h21o0 N0 x v0 0) (rk21o0 N0))) else none) := by kernel_rfl
  rw [h]
  unfold law21
  simp only [decide_self, decide_true, Nat.zero_add, Bool.and_true, Bool.true_and, cond_true, leq21o0, rest21o0o0, rest21o0o1]
noncomputable def fn21 (x : ((List DotT) × Int × Int × Bool × Unit)) : Option ((Int × Unit)) := law21 (10 ^ 30) x
theorem reads21 : Reads Try.prog 21 [.sl (DotSh), .int .i64, .int .i64, .bool] [.int .i64] fn21 := (Reads.of_code mixed (fn := Try.f21) (c := c21) Try.func21 (by kernel_rfl) (by kernel_rfl) env21 200 (L21_fit _) (by kernel_rfl)).to (eq21 _)
noncomputable def s21 : Summ Try.prog := reads21.summ
/- chicane/chicaneref09.far -/
noncomputable def c70 : Code := (Try.f70.body.getD .skip)
noncomputable def env70 : Env Try.prog := []
noncomputable def L70 : Loops Try.prog := []
theorem L70_fit : (L70).fit c70 := Loops.fit_nil
noncomputable def law70 (x : (Int × Unit)) : Option ((Bool × Unit)) := (bif decide (x.fst > 4503599627370496) then some ((true, ())) else some ((decide (x.fst < -4503599627370496), ())))
theorem eq70 (x : Sh.Ts [Sh.int IntKind.i64]) : codeLaw Try.prog env70 200 (L70) Try.f70 c70 [.int .i64] [.bool] x = law70 x := by kernel_rfl
noncomputable def fn70 (x : (Int × Unit)) : Option ((Bool × Unit)) := law70 x
theorem reads70 : Reads Try.prog 70 [.int .i64] [.bool] fn70 := (Reads.of_code mixed (fn := Try.f70) (c := c70) Try.func70 (by kernel_rfl) (by kernel_rfl) env70 200 (L70_fit) (by kernel_rfl)).to (eq70)
noncomputable def s70 : Summ Try.prog := reads70.summ
/- chicane/chicaneref09.beyond -/
noncomputable def c56 : Code := (Try.f56.body.getD .skip)
noncomputable def env56 : Env Try.prog := [s70]
noncomputable def b56o0 : Code := ((kid ((subAt c56 [0, 1, 0, 1]).getD .skip) 0).getD .skip)
noncomputable def kx56o0 : Exit → List Nat | .ret => [2] | _ => []
noncomputable def Li56o0 (N0 : Nat) : Loops Try.prog := []
noncomputable def ls56o0 (N0 : Nat) : LSumm Try.prog := loopSumm mixed env56 200 (Li56o0 N0) b56o0 (Loops.fit_nil) [0, 3] kx56o0 (N0)
noncomputable def ln56o0 {β : Type} (N0 : Nat) (n : Nat) (t : List AV) (h : Heap) (K : Exit → List AV → Heap → Option β) : Option β := loopN Try.prog env56 (Sh.nes [.sl (.int .i64)]) 200 (Li56o0 N0) b56o0 [0, 3] kx56o0 n t h K
noncomputable def L56 (N0 : Nat) : Loops Try.prog := [([0, 1, 0, 1], ls56o0 N0)]
theorem L56_fit (N0 : Nat) : (L56 N0).fit c56 := Loops.fit_cons (by kernel_rfl) (Loops.fit_nil)
noncomputable def K56 : Exit → List AV → Heap → Option (Sh.Ts [.bool]) := fun e t h => outK (P := Try.prog) Try.f56 [.bool] e t h
noncomputable def rk56o0 (N0 : Nat) : Exit → List AV → Heap → Option (Sh.Ts [.bool]) := (blkK 0 (seqK Try.prog env56 (Sh.nes [.sl (.int .i64)]) 198 (L56 N0) [1, 1] ((subAt c56 [1, 1]).getD .skip) K56))
noncomputable def t56o0 (N0 : Nat) (x : Sh.Ts [(Sh.int IntKind.i64).sl]) (i5 : Int) : List AV := [AV.slc 0 0 (List.length x.fst) Cap.low, AV.any, AV.any, AV.val (Value.int IntKind.i64 i5), AV.any, AV.any, AV.any, AV.any, AV.any, AV.any, AV.any, AV.any, AV.any, AV.any, AV.any]
noncomputable def h56o0 (N0 : Nat) (x : Sh.Ts [(Sh.int IntKind.i64).sl]) (i5 : Int) : Heap := [Ent.live (Blk.mk (Cells.arr (Sh.int IntKind.i64) x.fst) false none)]
noncomputable def tx56o0o0 (N0 : Nat) (x : Sh.Ts [(Sh.int IntKind.i64).sl]) : List AV := [AV.any, AV.any, AV.val (Value.bool true), AV.any, AV.any, AV.any, AV.any, AV.any, AV.any, AV.any, AV.any, AV.any, AV.any, AV.any, AV.any]
noncomputable def hx56o0o0 (N0 : Nat) (x : Sh.Ts [(Sh.int IntKind.i64).sl]) : Heap := [Ent.live (Blk.mk (Cells.arr (Sh.int IntKind.i64) x.fst) false none)]
noncomputable def tx56o0o1 (N0 : Nat) (x : Sh.Ts [(Sh.int IntKind.i64).sl]) : List AV := [AV.any, AV.any, AV.any, AV.any, AV.any, AV.any, AV.any, AV.any, AV.any, AV.any, AV.any, AV.any, AV.any, AV.any, AV.any]
noncomputable def hx56o0o1 (N0 : Nat) (x : Sh.Ts [(Sh.int IntKind.i64).sl]) : Heap := [Ent.live (Blk.mk (Cells.arr (Sh.int IntKind.i64) x.fst) false none)]
noncomputable def law56o0 {β : Type} (N0 : Nat) (x : ((List Int) × Unit)) (k0 : Option β) (k1 : Option β) : Nat → Int → Option β
  | 0, _ => none
  | n + 1, i5 => (bif decide (i5 < (↑(List.length x.fst) : Int)) then (bif decide (0 ≤ i5) && decide (i5 < (↑(List.length x.fst) : Int)) then (Option.bind x.fst[i5.toNat]? fun v6 => (Option.bind (fn70 (v6, ())) fun v7 => (bif v7.fst then k0 else law56o0 N0 x k0 k1 n (IntKind.i64.wrap (i5 + 1))))) else none) else k1)
theorem leq56o0 {β : Type} (N0 : Nat) (x : Sh.Ts [(Sh.int IntKind.i64).sl]) (K : Exit → List AV → Heap → Option β) : ∀ (n : Nat) (i5 : Int), ln56o0 N0 n (t56o0 N0 x i5) (h56o0 N0 x i5) K = law56o0 N0 x (K (Exit.ret) (tx56o0o0 N0 x) (hx56o0o0 N0 x)) (K (Exit.exit 0) (tx56o0o1 N0 x) (hx56o0o1 N0 x)) n i5
  | 0, _ => rfl
  | n + 1, i5 => by
    have h : ln56o0 N0 (n + 1) (t56o0 N0 x i5) (h56o0 N0 x i5) K = (bif decide (i5 < (↑(List.length x.fst) : Int)) then (bif decide (0 ≤ i5) && decide (i5 < (↑(List.length x.fst) : Int)) then (Option.bind (x.fst[0 + i5.toNat]?) fun v6 => (Option.bind (fn70 (v6, ())) fun v7 => (bif v7.fst then K (Exit.ret) (tx56o0o0 N0 x) (hx56o0o0 N0 x) else ln56o0 N0 n (t56o0 N0 x (IntKind.i64.wrap (i5 + 1))) (h56o0 N0 x (IntKind.i64.wrap (i5 + 1))) K))) else none) else K (Exit.exit 0) (tx56o0o1 N0 x) (hx56o0o1 N0 x)) := by kernel_rfl
    rw [h]
    simp only [decide_self, decide_true, Nat.zero_add, Bool.and_true, Bool.true_and, cond_true, law56o0, leq56o0 N0 x K n]
theorem rest56o0o0 (N0 : Nat) (x : Sh.Ts [(Sh.int IntKind.i64).sl]) : rk56o0 N0 (Exit.ret) (tx56o0o0 N0 x) (hx56o0o0 N0 x) = some ((true, ())) := by kernel_rfl
theorem rest56o0o1 (N0 : Nat) (x : Sh.Ts [(Sh.int IntKind.i64).sl]) : rk56o0 N0 (Exit.exit 0) (tx56o0o1 N0 x) (hx56o0o1 N0 x) = some ((false, ())) := by kernel_rfl
noncomputable def law56 (N0 : Nat) (x : ((List Int) × Unit)) : Option ((Bool × Unit)) := (law56o0 N0 x (some ((true, ()))) (some ((false, ()))) N0 0)
theorem eq56 (N0 : Nat) (x : Sh.Ts [(Sh.int IntKind.i64).sl]) : codeLaw Try.prog env56 200 (L56 N0) Try.f56 c56 [.sl (.int .i64)] [.bool] x = law56 N0 x := by
  have h : codeLaw Try.prog env56 200 (L56 N0) Try.f56 c56 [.sl (.int .i64)] [.bool] x = (ln56o0 N0 N0 (t56o0 N0 x 0) (h56o0 N0 x 0) (rk56o0 N0)) := by kernel_rfl
  rw [h]
  unfold law56
  simp only [decide_self, decide_true, Nat.zero_add, Bool.and_true, Bool.true_and, cond_true, leq56o0, rest56o0o0, rest56o0o1]
noncomputable def fn56 (x : ((List Int) × Unit)) : Option ((Bool × Unit)) := law56 (10 ^ 30) x
theorem reads56 : Reads Try.prog 56 [.sl (.int .i64)] [.bool] fn56 := (Reads.of_code mixed (fn := Try.f56) (c := c56) Try.func56 (by kernel_rfl) (by kernel_rfl) env56 200 (L56_fit _) (by kernel_rfl)).to (eq56 _)
noncomputable def s56 : Summ Try.prog := reads56.summ
end Go.Proofs.Ytamdbejojnfoiaa
