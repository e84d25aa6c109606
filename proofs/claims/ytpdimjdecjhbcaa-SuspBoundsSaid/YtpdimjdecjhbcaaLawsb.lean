/- What functions of this program tell of their arguments: for each a law, and that the function keeps to it. -/
import Derived.Test.YtpdimjdecjhbcaaLawsa
set_option linter.unusedVariables false
set_option linter.unusedSimpArgs false
set_option maxRecDepth 100000
namespace Go.Proofs.Ytpdimjdecjhbcaa
open Go Go.Ab Go.Proofs
/- chicane/table.Right -/
noncomputable def c65 : Code := (Try.f65.body.getD .skip)
noncomputable def env65 : Env Try.prog := []
noncomputable def b65o0 : Code := ((kid ((subAt c65 [0, 1, 0, 1, 1]).getD .skip) 0).getD .skip)
noncomputable def kx65o0 : Exit → List Nat | .ret => [2] | _ => []
noncomputable def Li65o0 (N0 : Nat) : Loops Try.prog := []
noncomputable def ls65o0 (N0 : Nat) : LSumm Try.prog := loopSumm mixed env65 200 (Li65o0 N0) b65o0 (Loops.fit_nil) [0, 13, 14, 15] kx65o0 (N0)
noncomputable def ln65o0 {β : Type} (N0 : Nat) (n : Nat) (t : List AV) (h : Heap) (K : Exit → List AV → Heap → Option β) : Option β := loopN Try.prog env65 (Sh.nes [.sl (DotSh)]) 200 (Li65o0 N0) b65o0 [0, 13, 14, 15] kx65o0 n t h K
noncomputable def L65 (N0 : Nat) : Loops Try.prog := [([0, 1, 0, 1, 1], ls65o0 N0)]
theorem L65_fit (N0 : Nat) : (L65 N0).fit c65 := Loops.fit_cons (by kernel_rfl) (Loops.fit_nil)
noncomputable def K65 : Exit → List AV → Heap → Option (Sh.Ts [.int .i64]) := fun e t h => outK (P := Try.prog) Try.f65 [.int .i64] e t h
noncomputable def rk65o0 (N0 : Nat) : Exit → List AV → Heap → Option (Sh.Ts [.int .i64]) := (blkK 0 (seqK Try.prog env65 (Sh.nes [.sl (DotSh)]) 197 (L65 N0) [1, 1, 1] ((subAt c65 [1, 1, 1]).getD .skip) K65))
noncomputable def t65o0 (N0 : Nat) (x : Sh.Ts [DotSh.sl]) (i7 : Int) : List AV := [AV.slc 0 0 (List.length x.fst) Cap.low, AV.any, AV.any, AV.any, AV.any, AV.any, AV.any, AV.any, AV.any, AV.any, AV.any, AV.any, AV.any, AV.slc 0 0 (List.length x.fst) Cap.low, AV.val (Value.int IntKind.i64 (↑(List.length x.fst) : Int)), AV.val (Value.int IntKind.i64 i7), AV.any, AV.any, AV.any, AV.any, AV.any, AV.any, AV.any, AV.any, AV.any, AV.any, AV.any, AV.any, AV.any, AV.any, AV.any, AV.any, AV.any, AV.any, AV.any, AV.any, AV.any, AV.any, AV.any, AV.any, AV.any, AV.any, AV.any, AV.any, AV.any, AV.any, AV.any, AV.any, AV.any, AV.any]
noncomputable def h65o0 (N0 : Nat) (x : Sh.Ts [DotSh.sl]) (i7 : Int) : Heap := [Ent.live (Blk.mk (Cells.arr (Sh.st [Sh.int IntKind.i64, Sh.int IntKind.i64]) x.fst) false none)]
noncomputable def tx65o0o0 (N0 : Nat) (x : Sh.Ts [DotSh.sl]) (w10 : Int) : List AV := [AV.any, AV.any, AV.val (Value.int IntKind.i64 w10), AV.any, AV.any, AV.any, AV.any, AV.any, AV.any, AV.any, AV.any, AV.any, AV.any, AV.any, AV.any, AV.any, AV.any, AV.any, AV.any, AV.any, AV.any, AV.any, AV.any, AV.any, AV.any, AV.any, AV.any, AV.any, AV.any, AV.any, AV.any, AV.any, AV.any, AV.any, AV.any, AV.any, AV.any, AV.any, AV.any, AV.any, AV.any, AV.any, AV.any, AV.any, AV.any, AV.any, AV.any, AV.any, AV.any, AV.any]
noncomputable def hx65o0o0 (N0 : Nat) (x : Sh.Ts [DotSh.sl]) (w10 : Int) : Heap := [Ent.live (Blk.mk (Cells.arr (Sh.st [Sh.int IntKind.i64, Sh.int IntKind.i64]) x.fst) false none)]
noncomputable def tx65o0o1 (N0 : Nat) (x : Sh.Ts [DotSh.sl]) : List AV := [AV.any, AV.any, AV.any, AV.any, AV.any, AV.any, AV.any, AV.any, AV.any, AV.any, AV.any, AV.any, AV.any, AV.any, AV.any, AV.any, AV.any, AV.any, AV.any, AV.any, AV.any, AV.any, AV.any, AV.any, AV.any, AV.any, AV.any, AV.any, AV.any, AV.any, AV.any, AV.any, AV.any, AV.any, AV.any, AV.any, AV.any, AV.any, AV.any, AV.any, AV.any, AV.any, AV.any, AV.any, AV.any, AV.any, AV.any, AV.any, AV.any, AV.any]
noncomputable def hx65o0o1 (N0 : Nat) (x : Sh.Ts [DotSh.sl]) : Heap := [Ent.live (Blk.mk (Cells.arr (Sh.st [Sh.int IntKind.i64, Sh.int IntKind.i64]) x.fst) false none)]
noncomputable def law65o0 {β : Type} (N0 : Nat) (x : ((List DotT) × Unit)) (k0 : Int → Option β) (k1 : Option β) : Nat → Int → Option β
  | 0, _ => none
  | n + 1, i7 => (bif decide (i7 < (↑(List.length x.fst) : Int)) then (bif decide (0 ≤ i7) && decide (i7 < (↑(List.length x.fst) : Int)) then (Option.bind x.fst[i7.toNat]? fun v8 => (bif decide ((if v8.snd.fst > v8.fst then v8.snd.fst else v8.fst) > 4503599627370496) then k0 40 else (bif decide ((if v8.snd.fst < v8.fst then v8.snd.fst else v8.fst) < -4503599627370496) then k0 40 else (bif decide (i7 > 0) then (bif decide (0 ≤ IntKind.i64.wrap (i7 - 1)) && decide (IntKind.i64.wrap (i7 - 1) < (↑(List.length x.fst) : Int)) then (Option.bind (x.fst[(IntKind.i64.wrap (i7 - 1)).toNat]?) fun v9 => (bif decide (v8.fst ≤ v9.fst) then k0 41 else law65o0 N0 x k0 k1 n (IntKind.i64.wrap (i7 + 1)))) else none) else law65o0 N0 x k0 k1 n (IntKind.i64.wrap (i7 + 1)))))) else none) else k1)
theorem leq65o0 {β : Type} (N0 : Nat) (x : Sh.Ts [DotSh.sl]) (K : Exit → List AV → Heap → Option β) : ∀ (n : Nat) (i7 : Int), ln65o0 N0 n (t65o0 N0 x i7) (h65o0 N0 x i7) K = law65o0 N0 x (fun w10 => K (Exit.ret) (tx65o0o0 N0 x w10) (hx65o0o0 N0 x w10)) (K (Exit.exit 0) (tx65o0o1 N0 x) (hx65o0o1 N0 x)) n i7
  | 0, _ => rfl
  | n + 1, i7 => by
    have h : ln65o0 N0 (n + 1) (t65o0 N0 x i7) (h65o0 N0 x i7) K = (bif decide (i7 < (↑(List.length x.fst) : Int)) then (bif decide (0 ≤ i7) && decide (i7 < (↑(List.length x.fst) : Int)) then (Option.bind x.fst[i7.toNat]? fun v8 => (bif decide ((if v8.snd.fst > v8.fst then v8.snd.fst else v8.fst) > 4503599627370496) then K (Exit.ret) (tx65o0o0 N0 x 40) (hx65o0o0 N0 x 40) else (bif decide ((if v8.snd.fst < v8.fst then v8.snd.fst else v8.fst) < -4503599627370496) then K (Exit.ret) (tx65o0o0 N0 x 40) (hx65o0o0 N0 x 40) else (bif decide (i7 > 0) then (bif decide (0 ≤ IntKind.i64.wrap (i7 - 1)) && decide (IntKind.i64.wrap (i7 - 1) < (↑(List.length x.fst) : Int)) then (Option.bind (x.fst[(IntKind.i64.wrap (i7 - 1)).toNat]?) fun v9 => (bif decide (v8.fst ≤ v9.fst) then K (Exit.ret) (tx65o0o0 N0 x 41) (hx65o0o0 N0 x 41) else ln65o0 N0 n (t65o0 N0 x (IntKind.i64.wrap (i7 + 1))) (h65o0 N0 x (IntKind.i64.wrap (i7 + 1))) K)) else none) else ln65o0 N0 n (t65o0 N0 x (IntKind.i64.wrap (i7 + 1))) (h65o0 N0 x (IntKind.i64.wrap (i7 + 1))) K)))) else none) else K (Exit.exit 0) (tx65o0o1 N0 x) (hx65o0o1 N0 x)) := by kernel_rfl
    rw [h]
    simp only [decide_self, decide_true, Nat.zero_add, Bool.and_true, Bool.true_and, cond_true, law65o0, leq65o0 N0 x K n]
theorem rest65o0o0 (N0 : Nat) (x : Sh.Ts [DotSh.sl]) (w11 : Int) : rk65o0 N0 (Exit.ret) (tx65o0o0 N0 x w11) (hx65o0o0 N0 x w11) = some ((w11, ())) := by kernel_rfl
theorem rest65o0o1 (N0 : Nat) (x : Sh.Ts [DotSh.sl]) : rk65o0 N0 (Exit.exit 0) (tx65o0o1 N0 x) (hx65o0o1 N0 x) = some ((0, ())) := by kernel_rfl
noncomputable def law65 (N0 : Nat) (x : ((List DotT) × Unit)) : Option ((Int × Unit)) := (bif decide ((↑(List.length x.fst) : Int) < 2) then some ((42, ())) else (bif decide ((↑(List.length x.fst) : Int) > 32) then some ((42, ())) else (law65o0 N0 x (fun w11 => some ((w11, ()))) (some ((0, ()))) N0 0)))
theorem eq65 (N0 : Nat) (x : Sh.Ts [DotSh.sl]) : codeLaw Try.prog env65 200 (L65 N0) Try.f65 c65 [.sl (DotSh)] [.int .i64] x = law65 N0 x := by
  have h : codeLaw Try.prog env65 200 (L65 N0) Try.f65 c65 [.sl (DotSh)] [.int .i64] x = (bif decide ((↑(List.length x.fst) : Int) < 2) then some ((42, ())) else (bif decide ((↑(List.length x.fst) : Int) > 32) then some ((42, ())) else (ln65o0 N0 N0 (t65o0 N0 x 0) (h65o0 N0 x 0) (rk65o0 N0)))) := by kernel_rfl
  rw [h]
  unfold law65
  simp only [decide_self, decide_true, Nat.zero_add, Bool.and_true, Bool.true_and, cond_true, leq65o0, rest65o0o0, rest65o0o1]
noncomputable def fn65 (x : ((List DotT) × Unit)) : Option ((Int × Unit)) := law65 (10 ^ 30) x
theorem reads65 : Reads Try.prog 65 [.sl (DotSh)] [.int .i64] fn65 := (Reads.of_code mixed (fn := Try.f65) (c := c65) Try.func65 (by kernel_rfl) (by kernel_rfl) env65 200 (L65_fit _) (by kernel_rfl)).to (eq65 _)
noncomputable def s65 : Summ Try.prog := reads65.summ
/- chicane/car.alike -/
noncomputable def c45 : Code := (Try.f45.body.getD .skip)
noncomputable def env45 : Env Try.prog := []
noncomputable def L45 : Loops Try.prog := []
theorem L45_fit : (L45).fit c45 := Loops.fit_nil
noncomputable def law45 (x : (DotT × Unit)) : Option ((Bool × Unit)) := (bif decide ((if x.fst.snd.fst < x.fst.fst then x.fst.snd.fst else x.fst.fst) < 0) then some ((!decide ((if x.fst.snd.fst > x.fst.fst then x.fst.snd.fst else x.fst.fst) > 0), ())) else some ((!false, ())))
theorem eq45 (x : Sh.Ts [DotSh]) : codeLaw Try.prog env45 200 (L45) Try.f45 c45 [DotSh] [.bool] x = law45 x := by kernel_rfl
noncomputable def fn45 (x : (DotT × Unit)) : Option ((Bool × Unit)) := law45 x
theorem reads45 : Reads Try.prog 45 [DotSh] [.bool] fn45 := (Reads.of_code mixed (fn := Try.f45) (c := c45) Try.func45 (by kernel_rfl) (by kernel_rfl) env45 200 (L45_fit) (by kernel_rfl)).to (eq45)
noncomputable def s45 : Summ Try.prog := reads45.summ
/- chicane/car.values -/
noncomputable def c44x45 : Code := (Try.f44.body.getD .skip)
noncomputable def env44x45 : Env Try.prog := [s65, s45]
noncomputable def b44x45_0 : Code := ((kid ((subAt c44x45 [0, 1, 0, 1, 1]).getD .skip) 0).getD .skip)
noncomputable def kx44x45_0 : Exit → List Nat | .ret => [8] | _ => []
noncomputable def Li44x45_0 (N0 : Nat) : Loops Try.prog := []
noncomputable def ls44x45_0 (N0 : Nat) : LSumm Try.prog := loopSumm mixed env44x45 200 (Li44x45_0 N0) b44x45_0 (Loops.fit_nil) [1, 2, 3, 17, 18, 19] kx44x45_0 (N0)
noncomputable def ln44x45_0 {β : Type} (N0 : Nat) (n : Nat) (t : List AV) (h : Heap) (K : Exit → List AV → Heap → Option β) : Option β := loopN Try.prog env44x45 (Sh.nes [.sl (DotSh), .int .i64, .int .i64] + Sh.nes [] + List.length (α := Sh) []) 200 (Li44x45_0 N0) b44x45_0 [1, 2, 3, 17, 18, 19] kx44x45_0 n t h K
noncomputable def L44x45 (N0 : Nat) : Loops Try.prog := [([0, 1, 0, 1, 1], ls44x45_0 N0)]
theorem L44x45_fit (N0 : Nat) : (L44x45 N0).fit c44x45 := Loops.fit_cons (by kernel_rfl) (Loops.fit_nil)
noncomputable def K44x45 : Exit → List AV → Heap → Option (Sh.Ts [.int .i64]) := fun e t h => outK (P := Try.prog) Try.f44 [.int .i64] e t h
noncomputable def rk44x45_0 (N0 : Nat) : Exit → List AV → Heap → Option (Sh.Ts [.int .i64]) := (blkK 0 (seqK Try.prog env44x45 (Sh.nes [.sl (DotSh), .int .i64, .int .i64] + Sh.nes [] + List.length (α := Sh) []) 197 (L44x45 N0) [1, 1, 1] ((subAt c44x45 [1, 1, 1]).getD .skip) K44x45))
noncomputable def t44x45_0 (N0 : Nat) (x : Sh.Ts [DotSh.sl, Sh.int IntKind.i64, Sh.int IntKind.i64]) (i9 : Int) : List AV := [AV.any, AV.val (Value.int IntKind.i64 x.snd.fst), AV.val (Value.int IntKind.i64 x.snd.snd.fst), AV.fn (Fn.func 45) [] [], AV.any, AV.any, AV.any, AV.any, AV.any, AV.any, AV.any, AV.any, AV.any, AV.any, AV.any, AV.any, AV.any, AV.slc 0 0 (List.length x.fst) Cap.low, AV.val (Value.int IntKind.i64 (↑(List.length x.fst) : Int)), AV.val (Value.int IntKind.i64 i9), AV.any, AV.any, AV.any, AV.any, AV.any, AV.any, AV.any, AV.any, AV.any, AV.any, AV.any, AV.any, AV.any, AV.any, AV.any, AV.any, AV.any, AV.any, AV.any, AV.any]
noncomputable def h44x45_0 (N0 : Nat) (x : Sh.Ts [DotSh.sl, Sh.int IntKind.i64, Sh.int IntKind.i64]) (i9 : Int) : Heap := [Ent.live (Blk.mk (Cells.arr (Sh.st [Sh.int IntKind.i64, Sh.int IntKind.i64]) x.fst) false none)]
noncomputable def tx44x45_0_0 (N0 : Nat) (x : Sh.Ts [DotSh.sl, Sh.int IntKind.i64, Sh.int IntKind.i64]) : List AV := [AV.any, AV.any, AV.any, AV.any, AV.any, AV.any, AV.any, AV.any, AV.val (Value.int IntKind.i64 40), AV.any, AV.any, AV.any, AV.any, AV.any, AV.any, AV.any, AV.any, AV.any, AV.any, AV.any, AV.any, AV.any, AV.any, AV.any, AV.any, AV.any, AV.any, AV.any, AV.any, AV.any, AV.any, AV.any, AV.any, AV.any, AV.any, AV.any, AV.any, AV.any, AV.any, AV.any]
noncomputable def hx44x45_0_0 (N0 : Nat) (x : Sh.Ts [DotSh.sl, Sh.int IntKind.i64, Sh.int IntKind.i64]) : Heap := [Ent.live (Blk.mk (Cells.arr (Sh.st [Sh.int IntKind.i64, Sh.int IntKind.i64]) x.fst) false none)]
noncomputable def tx44x45_0_1 (N0 : Nat) (x : Sh.Ts [DotSh.sl, Sh.int IntKind.i64, Sh.int IntKind.i64]) : List AV := [AV.any, AV.any, AV.any, AV.any, AV.any, AV.any, AV.any, AV.any, AV.any, AV.any, AV.any, AV.any, AV.any, AV.any, AV.any, AV.any, AV.any, AV.any, AV.any, AV.any, AV.any, AV.any, AV.any, AV.any, AV.any, AV.any, AV.any, AV.any, AV.any, AV.any, AV.any, AV.any, AV.any, AV.any, AV.any, AV.any, AV.any, AV.any, AV.any, AV.any]
noncomputable def hx44x45_0_1 (N0 : Nat) (x : Sh.Ts [DotSh.sl, Sh.int IntKind.i64, Sh.int IntKind.i64]) : Heap := [Ent.live (Blk.mk (Cells.arr (Sh.st [Sh.int IntKind.i64, Sh.int IntKind.i64]) x.fst) false none)]
noncomputable def law44x45_0 {β : Type} (N0 : Nat) (x : ((List DotT) × Int × Int × Unit)) (k0 : Option β) (k1 : Option β) : Nat → Int → Option β
  | 0, _ => none
  | n + 1, i9 => (bif decide (i9 < (↑(List.length x.fst) : Int)) then (bif decide (0 ≤ i9) && decide (i9 < (↑(List.length x.fst) : Int)) then (Option.bind x.fst[i9.toNat]? fun v10 => (bif decide (v10.snd.fst < x.snd.fst) then k0 else (bif decide (v10.snd.fst > x.snd.snd.fst) then k0 else (Option.bind (fn45 (v10, ())) fun v11 => (bif !v11.fst then k0 else law44x45_0 N0 x k0 k1 n (IntKind.i64.wrap (i9 + 1))))))) else none) else k1)
theorem leq44x45_0 {β : Type} (N0 : Nat) (x : Sh.Ts [DotSh.sl, Sh.int IntKind.i64, Sh.int IntKind.i64]) (K : Exit → List AV → Heap → Option β) : ∀ (n : Nat) (i9 : Int), ln44x45_0 N0 n (t44x45_0 N0 x i9) (h44x45_0 N0 x i9) K = law44x45_0 N0 x (K (Exit.ret) (tx44x45_0_0 N0 x) (hx44x45_0_0 N0 x)) (K (Exit.exit 0) (tx44x45_0_1 N0 x) (hx44x45_0_1 N0 x)) n i9
  | 0, _ => rfl
  | n + 1, i9 => by
    have h : ln44x45_0 N0 (n + 1) (t44x45_0 N0 x i9) (h44x45_0 N0 x i9) K = (bif decide (i9 < (↑(List.length x.fst) : Int)) then (bif decide (0 ≤ i9) && decide (i9 < (↑(List.length x.fst) : Int)) then (Option.bind x.fst[i9.toNat]? fun v10 => (bif decide (v10.snd.fst < x.snd.fst) then K (Exit.ret) (tx44x45_0_0 N0 x) (hx44x45_0_0 N0 x) else (bif decide (v10.snd.fst > x.snd.snd.fst) then K (Exit.ret) (tx44x45_0_0 N0 x) (hx44x45_0_0 N0 x) else (Option.bind (fn45 (v10, ())) fun v11 => (bif !v11.fst then K (Exit.ret) (tx44x45_0_0 N0 x) (hx44x45_0_0 N0 x) else ln44x45_0 N0 n (t44x45_0 N0 x (IntKind.i64.wrap (i9 + 1))) (h44x45_0 N0 x (IntKind.i64.wrap (i9 + 1))) K))))) else none) else K (Exit.exit 0) (tx44x45_0_1 N0 x) (hx44x45_0_1 N0 x)) := by kernel_rfl
    rw [h]
    simp only [decide_self, decide_true, Nat.zero_add, Bool.and_true, Bool.true_and, cond_true, law44x45_0, leq44x45_0 N0 x K n]
theorem rest44x45_0_0 (N0 : Nat) (x : Sh.Ts [DotSh.sl, Sh.int IntKind.i64, Sh.int IntKind.i64]) : rk44x45_0 N0 (Exit.ret) (tx44x45_0_0 N0 x) (hx44x45_0_0 N0 x) = some ((40, ())) := by kernel_rfl
theorem rest44x45_0_1 (N0 : Nat) (x : Sh.Ts [DotSh.sl, Sh.int IntKind.i64, Sh.int IntKind.i64]) : rk44x45_0 N0 (Exit.exit 0) (tx44x45_0_1 N0 x) (hx44x45_0_1 N0 x) = some ((0, ())) := by kernel_rfl
noncomputable def law44x45 (N0 : Nat) (x : ((List DotT) × Int × Int × Unit)) (xs : (Unit)) : Option ((Int × Unit)) := (Option.bind (fn65 (x.fst, ())) fun v0 => (bif v0.fst != 0 then some ((v0.fst, ())) else (law44x45_0 N0 x (some ((40, ()))) (some ((0, ()))) N0 0)))
theorem eq44x45 (N0 : Nat) (x : Sh.Ts [DotSh.sl, Sh.int IntKind.i64, Sh.int IntKind.i64]) (xs : Sh.Ts []) : codeLawC Try.prog env44x45 200 (L44x45 N0) Try.f44 c44x45 [.sl (DotSh), .int .i64, .int .i64] 45 [] [.int .i64] x xs = law44x45 N0 x xs := by
  have h : codeLawC Try.prog env44x45 200 (L44x45 N0) Try.f44 c44x45 [.sl (DotSh), .int .i64, .int .i64] 45 [] [.int .i64] x xs = (bif decide (List.length x.fst = List.length x.fst) && true then (Option.bind (fn65 (x.fst, ())) fun v0 => (bif v0.fst != 0 then some ((v0.fst, ())) else (ln44x45_0 N0 N0 (t44x45_0 N0 x 0) (h44x45_0 N0 x 0) (rk44x45_0 N0)))) else none) := by kernel_rfl
  rw [h]
  unfold law44x45
  simp only [decide_self, decide_true, Nat.zero_add, Bool.and_true, Bool.true_and, cond_true, leq44x45_0, rest44x45_0_0, rest44x45_0_1]
noncomputable def fn44x45 (x : ((List DotT) × Int × Int × Unit)) (xs : (Unit)) : Option ((Int × Unit)) := law44x45 (10 ^ 30) x xs
theorem reads44x45 : ReadsC Try.prog 44 [.sl (DotSh), .int .i64, .int .i64] 45 [] [.int .i64] fn44x45 := (ReadsC.of_code mixed (fn := Try.f44) (c := c44x45) Try.func44 (by kernel_rfl) (by kernel_rfl) env44x45 200 (L44x45_fit _) (by kernel_rfl)).to (eq44x45 _)
noncomputable def s44x45 : Summ Try.prog := reads44x45.summ (by kernel_rfl)
/- chicane/car.free -/
noncomputable def c47 : Code := (Try.f47.body.getD .skip)
noncomputable def env47 : Env Try.prog := []
noncomputable def L47 : Loops Try.prog := []
theorem L47_fit : (L47).fit c47 := Loops.fit_nil
noncomputable def law47 (x : (DotT × Unit)) : Option ((Bool × Unit)) := some ((true, ()))
theorem eq47 (x : Sh.Ts [DotSh]) : codeLaw Try.prog env47 200 (L47) Try.f47 c47 [DotSh] [.bool] x = law47 x := by kernel_rfl
noncomputable def fn47 (x : (DotT × Unit)) : Option ((Bool × Unit)) := law47 x
theorem reads47 : Reads Try.prog 47 [DotSh] [.bool] fn47 := (Reads.of_code mixed (fn := Try.f47) (c := c47) Try.func47 (by kernel_rfl) (by kernel_rfl) env47 200 (L47_fit) (by kernel_rfl)).to (eq47)
noncomputable def s47 : Summ Try.prog := reads47.summ
/- chicane/car.values -/
noncomputable def c44x47 : Code := (Try.f44.body.getD .skip)
noncomputable def env44x47 : Env Try.prog := [s65, s47]
noncomputable def b44x47_0 : Code := ((kid ((subAt c44x47 [0, 1, 0, 1, 1]).getD .skip) 0).getD .skip)
noncomputable def kx44x47_0 : Exit → List Nat | .ret => [8] | _ => []
noncomputable def Li44x47_0 (N0 : Nat) : Loops Try.prog := []
noncomputable def ls44x47_0 (N0 : Nat) : LSumm Try.prog := loopSumm mixed env44x47 200 (Li44x47_0 N0) b44x47_0 (Loops.fit_nil) [1, 2, 3, 17, 18, 19] kx44x47_0 (N0)
noncomputable def ln44x47_0 {β : Type} (N0 : Nat) (n : Nat) (t : List AV) (h : Heap) (K : Exit → List AV → Heap → Option β) : Option β := loopN Try.prog env44x47 (Sh.nes [.sl (DotSh), .int .i64, .int .i64] + Sh.nes [] + List.length (α := Sh) []) 200 (Li44x47_0 N0) b44x47_0 [1, 2, 3, 17, 18, 19] kx44x47_0 n t h K
noncomputable def L44x47 (N0 : Nat) : Loops Try.prog := [([0, 1, 0, 1, 1], ls44x47_0 N0)]
theorem L44x47_fit (N0 : Nat) : (L44x47 N0).fit c44x47 := Loops.fit_cons (by kernel_rfl) (Loops.fit_nil)
noncomputable def K44x47 : Exit → List AV → Heap → Option (Sh.Ts [.int .i64]) := fun e t h => outK (P := Try.prog) Try.f44 [.int .i64] e t h
noncomputable def rk44x47_0 (N0 : Nat) : Exit → List AV → Heap → Option (Sh.Ts [.int .i64]) := (blkK 0 (seqK Try.prog env44x47 (Sh.nes [.sl (DotSh), .int .i64, .int .i64] + Sh.nes [] + List.length (α := Sh) []) 197 (L44x47 N0) [1, 1, 1] ((subAt c44x47 [1, 1, 1]).getD .skip) K44x47))
noncomputable def t44x47_0 (N0 : Nat) (x : Sh.Ts [DotSh.sl, Sh.int IntKind.i64, Sh.int IntKind.i64]) (i8 : Int) : List AV := [AV.any, AV.val (Value.int IntKind.i64 x.snd.fst), AV.val (Value.int IntKind.i64 x.snd.snd.fst), AV.fn (Fn.func 47) [] [], AV.any, AV.any, AV.any, AV.any, AV.any, AV.any, AV.any, AV.any, AV.any, AV.any, AV.any, AV.any, AV.any, AV.slc 0 0 (List.length x.fst) Cap.low, AV.val (Value.int IntKind.i64 (↑(List.length x.fst) : Int)), AV.val (Value.int IntKind.i64 i8), AV.any, AV.any, AV.any, AV.any, AV.any, AV.any, AV.any, AV.any, AV.any, AV.any, AV.any, AV.any, AV.any, AV.any, AV.any, AV.any, AV.any, AV.any, AV.any, AV.any]
noncomputable def h44x47_0 (N0 : Nat) (x : Sh.Ts [DotSh.sl, Sh.int IntKind.i64, Sh.int IntKind.i64]) (i8 : Int) : Heap := [Ent.live (Blk.mk (Cells.arr (Sh.st [Sh.int IntKind.i64, Sh.int IntKind.i64]) x.fst) false none)]
noncomputable def tx44x47_0_0 (N0 : Nat) (x : Sh.Ts [DotSh.sl, Sh.int IntKind.i64, Sh.int IntKind.i64]) : List AV := [AV.any, AV.any, AV.any, AV.any, AV.any, AV.any, AV.any, AV.any, AV.val (Value.int IntKind.i64 40), AV.any, AV.any, AV.any, AV.any, AV.any, AV.any, AV.any, AV.any, AV.any, AV.any, AV.any, AV.any, AV.any, AV.any, AV.any, AV.any, AV.any, AV.any, AV.any, AV.any, AV.any, AV.any, AV.any, AV.any, AV.any, AV.any, AV.any, AV.any, AV.any, AV.any, AV.any]
noncomputable def hx44x47_0_0 (N0 : Nat) (x : Sh.Ts [DotSh.sl, Sh.int IntKind.i64, Sh.int IntKind.i64]) : Heap := [Ent.live (Blk.mk (Cells.arr (Sh.st [Sh.int IntKind.i64, Sh.int IntKind.i64]) x.fst) false none)]
noncomputable def tx44x47_0_1 (N0 : Nat) (x : Sh.Ts [DotSh.sl, Sh.int IntKind.i64, Sh.int IntKind.i64]) : List AV := [AV.any, AV.any, AV.any, AV.any, AV.any, AV.any, AV.any, AV.any, AV.any, AV.any, AV.any, AV.any, AV.any, AV.any, AV.any, AV.any, AV.any, AV.any, AV.any, AV.any, AV.any, AV.any, AV.any, AV.any, AV.any, AV.any, AV.any, AV.any, AV.any, AV.any, AV.any, AV.any, AV.any, AV.any, AV.any, AV.any, AV.any, AV.any, AV.any, AV.any]
noncomputable def hx44x47_0_1 (N0 : Nat) (x : Sh.Ts [DotSh.sl, Sh.int IntKind.i64, Sh.int IntKind.i64]) : Heap := [Ent.live (Blk.mk (Cells.arr (Sh.st [Sh.int IntKind.i64, Sh.int IntKind.i64]) x.fst) false none)]
noncomputable def law44x47_0 {β : Type} (N0 : Nat) (x : ((List DotT) × Int × Int × Unit)) (k0 : Option β) (k1 : Option β) : Nat → Int → Option β
  | 0, _ => none
  | n + 1, i8 => (bif decide (i8 < (↑(List.length x.fst) : Int)) then (bif decide (0 ≤ i8) && decide (i8 < (↑(List.length x.fst) : Int)) then (Option.bind x.fst[i8.toNat]? fun v9 => (bif decide (v9.snd.fst < x.snd.fst) then k0 else (bif decide (v9.snd.fst > x.snd.snd.fst) then k0 else law44x47_0 N0 x k0 k1 n (IntKind.i64.wrap (i8 + 1))))) else none) else k1)
theorem leq44x47_0 {β : Type} (N0 : Nat) (x : Sh.Ts [DotSh.sl, Sh.int IntKind.i64, Sh.int IntKind.i64]) (K : Exit → List AV → Heap → Option β) : ∀ (n : Nat) (i8 : Int), ln44x47_0 N0 n (t44x47_0 N0 x i8) (h44x47_0 N0 x i8) K = law44x47_0 N0 x (K (Exit.ret) (tx44x47_0_0 N0 x) (hx44x47_0_0 N0 x)) (K (Exit.exit 0) (tx44x47_0_1 N0 x) (hx44x47_0_1 N0 x)) n i8
  | 0, _ => rfl
  | n + 1, i8 => by
    have h : ln44x47_0 N0 (n + 1) (t44x47_0 N0 x i8) (h44x47_0 N0 x i8) K = (bif decide (i8 < (↑(List.length x.fst) : Int)) then (bif decide (0 ≤ i8) && decide (i8 < (↑(List.length x.fst) : Int)) then (Option.bind x.fst[i8.toNat]? fun v9 => (bif decide (v9.snd.fst < x.snd.fst) then K (Exit.ret) (tx44x47_0_0 N0 x) (hx44x47_0_0 N0 x) else (bif decide (v9.snd.fst > x.snd.snd.fst) then K (Exit.ret) (tx44x47_0_0 N0 x) (hx44x47_0_0 N0 x) else ln44x47_0 N0 n (t44x47_0 N0 x (IntKind.i64.wrap (i8 + 1))) (h44x47_0 N0 x (IntKind.i64.wrap (i8 + 1))) K))) else none) else K (Exit.exit 0) (tx44x47_0_1 N0 x) (hx44x47_0_1 N0 x)) := by kernel_rfl
    rw [h]
    simp only [decide_self, decide_true, Nat.zero_add, Bool.and_true, Bool.true_and, cond_true, law44x47_0, leq44x47_0 N0 x K n]
theorem rest44x47_0_0 (N0 : Nat) (x : Sh.Ts [DotSh.sl, Sh.int IntKind.i64, Sh.int IntKind.i64]) : rk44x47_0 N0 (Exit.ret) (tx44x47_0_0 N0 x) (hx44x47_0_0 N0 x) = some ((40, ())) := by kernel_rfl
theorem rest44x47_0_1 (N0 : Nat) (x : Sh.Ts [DotSh.sl, Sh.int IntKind.i64, Sh.int IntKind.i64]) : rk44x47_0 N0 (Exit.exit 0) (tx44x47_0_1 N0 x) (hx44x47_0_1 N0 x) = some ((0, ())) := by kernel_rfl
noncomputable def law44x47 (N0 : Nat) (x : ((List DotT) × Int × Int × Unit)) (xs : (Unit)) : Option ((Int × Unit)) := (Option.bind (fn65 (x.fst, ())) fun v0 => (bif v0.fst != 0 then some ((v0.fst, ())) else (law44x47_0 N0 x (some ((40, ()))) (some ((0, ()))) N0 0)))
theorem eq44x47 (N0 : Nat) (x : Sh.Ts [DotSh.sl, Sh.int IntKind.i64, Sh.int IntKind.i64]) (xs : Sh.Ts []) : codeLawC Try.prog env44x47 200 (L44x47 N0) Try.f44 c44x47 [.sl (DotSh), .int .i64, .int .i64] 47 [] [.int .i64] x xs = law44x47 N0 x xs := by
  have h : codeLawC Try.prog env44x47 200 (L44x47 N0) Try.f44 c44x47 [.sl (DotSh), .int .i64, .int .i64] 47 [] [.int .i64] x xs = (bif decide (List.length x.fst = List.length x.fst) && true then (Option.bind (fn65 (x.fst, ())) fun v0 => (bif v0.fst != 0 then some ((v0.fst, ())) else (ln44x47_0 N0 N0 (t44x47_0 N0 x 0) (h44x47_0 N0 x 0) (rk44x47_0 N0)))) else none) := by kernel_rfl
  rw [h]
  unfold law44x47
  simp only [decide_self, decide_true, Nat.zero_add, Bool.and_true, Bool.true_and, cond_true, leq44x47_0, rest44x47_0_0, rest44x47_0_1]
noncomputable def fn44x47 (x : ((List DotT) × Int × Int × Unit)) (xs : (Unit)) : Option ((Int × Unit)) := law44x47 (10 ^ 30) x xs
theorem reads44x47 : ReadsC Try.prog 44 [.sl (DotSh), .int .i64, .int .i64] 47 [] [.int .i64] fn44x47 := (ReadsC.of_code mixed (fn := Try.f44) (c := c44x47) Try.func44 (by kernel_rfl) (by kernel_rfl) env44x47 200 (L44x47_fit _) (by kernel_rfl)).to (eq44x47 _)
noncomputable def s44x47 : Summ Try.prog := reads44x47.summ (by kernel_rfl)
/- chicane/pane.far -/
noncomputable def c82 : Code := (Try.f82.body.getD .skip)
noncomputable def env82 : Env Try.prog := []
noncomputable def L82 : Loops Try.prog := []
theorem L82_fit : (L82).fit c82 := Loops.fit_nil
noncomputable def law82 (x : (Int × Unit)) : Option ((Bool × Unit)) := (bif decide (x.fst > 4503599627370496) then some ((true, ())) else some ((decide (x.fst < -4503599627370496), ())))
theorem eq82 (x : Sh.Ts [Sh.int IntKind.i64]) : codeLaw Try.prog env82 200 (L82) Try.f82 c82 [.int .i64] [.bool] x = law82 x := by kernel_rfl
noncomputable def fn82 (x : (Int × Unit)) : Option ((Bool × Unit)) := law82 x
theorem reads82 : Reads Try.prog 82 [.int .i64] [.bool] fn82 := (Reads.of_code mixed (fn := Try.f82) (c := c82) Try.func82 (by kernel_rfl) (by kernel_rfl) env82 200 (L82_fit) (by kernel_rfl)).to (eq82)
noncomputable def s82 : Summ Try.prog := reads82.summ
/- slices.IndexFunc[[]chicane/api.Fx,chicane/api.Fx] -/
noncomputable def c93x82 : Code := (Try.f93.body.getD .skip)
noncomputable def env93x82 : Env Try.prog := [s82]
noncomputable def b93x82_0 : Code := ((kid ((subAt c93x82 [0, 1, 0, 1]).getD .skip) 0).getD .skip)
noncomputable def kx93x82_0 : Exit → List Nat | .ret => [4] | _ => []
noncomputable def Li93x82_0 (N0 : Nat) : Loops Try.prog := []
noncomputable def ls93x82_0 (N0 : Nat) : LSumm Try.prog := loopSumm mixed env93x82 200 (Li93x82_0 N0) b93x82_0 (Loops.fit_nil) [0, 1, 7, 8] kx93x82_0 (N0)
noncomputable def ln93x82_0 {β : Type} (N0 : Nat) (n : Nat) (t : List AV) (h : Heap) (K : Exit → List AV → Heap → Option β) : Option β := loopN Try.prog env93x82 (Sh.nes [.sl (.int .i64)] + Sh.nes [] + List.length (α := Sh) []) 200 (Li93x82_0 N0) b93x82_0 [0, 1, 7, 8] kx93x82_0 n t h K
noncomputable def L93x82 (N0 : Nat) : Loops Try.prog := [([0, 1, 0, 1], ls93x82_0 N0)]
theorem L93x82_fit (N0 : Nat) : (L93x82 N0).fit c93x82 := Loops.fit_cons (by kernel_rfl) (Loops.fit_nil)
noncomputable def K93x82 : Exit → List AV → Heap → Option (Sh.Ts [.int .i64]) := fun e t h => outK (P := Try.prog) Try.f93 [.int .i64] e t h
noncomputable def rk93x82_0 (N0 : Nat) : Exit → List AV → Heap → Option (Sh.Ts [.int .i64]) := (blkK 0 (seqK Try.prog env93x82 (Sh.nes [.sl (.int .i64)] + Sh.nes [] + List.length (α := Sh) []) 198 (L93x82 N0) [1, 1] ((subAt c93x82 [1, 1]).getD .skip) K93x82))
noncomputable def t93x82_0 (N0 : Nat) (x : Sh.Ts [(Sh.int IntKind.i64).sl]) (i6 : Int) : List AV := [AV.slc 0 0 (List.length x.fst) Cap.low, AV.fn (Fn.func 82) [] [], AV.any, AV.any, AV.any, AV.any, AV.any, AV.val (Value.int IntKind.i64 (↑(List.length x.fst) : Int)), AV.val (Value.int IntKind.i64 i6), AV.any, AV.any, AV.any, AV.any, AV.any, AV.any, AV.any, AV.any, AV.any, AV.any]
noncomputable def h93x82_0 (N0 : Nat) (x : Sh.Ts [(Sh.int IntKind.i64).sl]) (i6 : Int) : Heap := [Ent.live (Blk.mk (Cells.arr (Sh.int IntKind.i64) x.fst) false none)]
noncomputable def tx93x82_0_0 (N0 : Nat) (x : Sh.Ts [(Sh.int IntKind.i64).sl]) (w9 : Int) : List AV := [AV.any, AV.any, AV.any, AV.any, AV.val (Value.int IntKind.i64 w9), AV.any, AV.any, AV.any, AV.any, AV.any, AV.any, AV.any, AV.any, AV.any, AV.any, AV.any, AV.any, AV.any, AV.any]
noncomputable def hx93x82_0_0 (N0 : Nat) (x : Sh.Ts [(Sh.int IntKind.i64).sl]) (w9 : Int) : Heap := [Ent.live (Blk.mk (Cells.arr (Sh.int IntKind.i64) x.fst) false none)]
noncomputable def tx93x82_0_1 (N0 : Nat) (x : Sh.Ts [(Sh.int IntKind.i64).sl]) : List AV := [AV.any, AV.any, AV.any, AV.any, AV.any, AV.any, AV.any, AV.any, AV.any, AV.any, AV.any, AV.any, AV.any, AV.any, AV.any, AV.any, AV.any, AV.any, AV.any]
noncomputable def hx93x82_0_1 (N0 : Nat) (x : Sh.Ts [(Sh.int IntKind.i64).sl]) : Heap := [Ent.live (Blk.mk (Cells.arr (Sh.int IntKind.i64) x.fst) false none)]
noncomputable def law93x82_0 {β : Type} (N0 : Nat) (x : ((List Int) × Unit)) (k0 : Int → Option β) (k1 : Option β) : Nat → Int → Option β
  | 0, _ => none
  | n + 1, i6 => (bif decide (i6 < (↑(List.length x.fst) : Int)) then (bif decide (0 ≤ i6) && decide (i6 < (↑(List.length x.fst) : Int)) then (Option.bind x.fst[i6.toNat]? fun v7 => (Option.bind (fn82 (v7, ())) fun v8 => (bif v8.fst then k0 i6 else law93x82_0 N0 x k0 k1 n (IntKind.i64.wrap (i6 + 1))))) else none) else k1)
theorem leq93x82_0 {β : Type} (N0 : Nat) (x : Sh.Ts [(Sh.int IntKind.i64).sl]) (K : Exit → List AV → Heap → Option β) : ∀ (n : Nat) (i6 : Int), ln93x82_0 N0 n (t93x82_0 N0 x i6) (h93x82_0 N0 x i6) K = law93x82_0 N0 x (fun w9 => K (Exit.ret) (tx93x82_0_0 N0 x w9) (hx93x82_0_0 N0 x w9)) (K (Exit.exit 0) (tx93x82_0_1 N0 x) (hx93x82_0_1 N0 x)) n i6
  | 0, _ => rfl
  | n + 1, i6 => by
    have h : ln93x82_0 N0 (n + 1) (t93x82_0 N0 x i6) (h93x82_0 N0 x i6) K = (bif decide (i6 < (↑(List.length x.fst) : Int)) then (bif decide (0 ≤ i6) && decide (i6 < (↑(List.length x.fst) : Int)) then (Option.bind (x.fst[0 + i6.toNat]?) fun v7 => (Option.bind (fn82 (v7, ())) fun v8 => (bif v8.fst then K (Exit.ret) (tx93x82_0_0 N0 x i6) (hx93x82_0_0 N0 x i6) else ln93x82_0 N0 n (t93x82_0 N0 x (IntKind.i64.wrap (i6 + 1))) (h93x82_0 N0 x (IntKind.i64.wrap (i6 + 1))) K))) else none) else K (Exit.exit 0) (tx93x82_0_1 N0 x) (hx93x82_0_1 N0 x)) := by kernel_rfl
    rw [h]
    simp only [decide_self, decide_true, Nat.zero_add, Bool.and_true, Bool.true_and, cond_true, law93x82_0, leq93x82_0 N0 x K n]
theorem rest93x82_0_0 (N0 : Nat) (x : Sh.Ts [(Sh.int IntKind.i64).sl]) (w10 : Int) : rk93x82_0 N0 (Exit.ret) (tx93x82_0_0 N0 x w10) (hx93x82_0_0 N0 x w10) = some ((w10, ())) := by kernel_rfl
theorem rest93x82_0_1 (N0 : Nat) (x : Sh.Ts [(Sh.int IntKind.i64).sl]) : rk93x82_0 N0 (Exit.exit 0) (tx93x82_0_1 N0 x) (hx93x82_0_1 N0 x) = some ((-1, ())) := by kernel_rfl
noncomputable def law93x82 (N0 : Nat) (x : ((List Int) × Unit)) (xs : (Unit)) : Option ((Int × Unit)) := (law93x82_0 N0 x (fun w10 => some ((w10, ()))) (some ((-1, ()))) N0 0)
theorem eq93x82 (N0 : Nat) (x : Sh.Ts [(Sh.int IntKind.i64).sl]) (xs : Sh.Ts []) : codeLawC Try.prog env93x82 200 (L93x82 N0) Try.f93 c93x82 [.sl (.int .i64)] 82 [] [.int .i64] x xs = law93x82 N0 x xs := by
  have h : codeLawC Try.prog env93x82 200 (L93x82 N0) Try.f93 c93x82 [.sl (.int .i64)] 82 [] [.int .i64] x xs = (ln93x82_0 N0 N0 (t93x82_0 N0 x 0) (h93x82_0 N0 x 0) (rk93x82_0 N0)) := by kernel_rfl
  rw [h]
  unfold law93x82
  simp only [decide_self, decide_true, Nat.zero_add, Bool.and_true, Bool.true_and, cond_true, leq93x82_0, rest93x82_0_0, rest93x82_0_1]
noncomputable def fn93x82 (x : ((List Int) × Unit)) (xs : (Unit)) : Option ((Int × Unit)) := law93x82 (10 ^ 30) x xs
theorem reads93x82 : ReadsC Try.prog 93 [.sl (.int .i64)] 82 [] [.int .i64] fn93x82 := (ReadsC.of_code mixed (fn := Try.f93) (c := c93x82) Try.func93 (by kernel_rfl) (by kernel_rfl) env93x82 200 (L93x82_fit _) (by kernel_rfl)).to (eq93x82 _)
noncomputable def s93x82 : Summ Try.prog := reads93x82.summ (by kernel_rfl)
noncomputable def s93 : Summ Try.prog := s93x82
/- slices.ContainsFunc[[]chicane/api.Fx,chicane/api.Fx] -/
noncomputable def c81x82 : Code := (Try.f81.body.getD .skip)
noncomputable def env81x82 : Env Try.prog := [s93, s82]
noncomputable def L81x82 : Loops Try.prog := []
theorem L81x82_fit : (L81x82).fit c81x82 := Loops.fit_nil
noncomputable def law81x82 (x : ((List Int) × Unit)) (xs : (Unit)) : Option ((Bool × Unit)) := (Option.bind (fn93x82 x ()) fun v0 => some ((decide (v0.fst ≥ 0), ())))
theorem eq81x82 (x : Sh.Ts [(Sh.int IntKind.i64).sl]) (xs : Sh.Ts []) : codeLawC Try.prog env81x82 200 (L81x82) Try.f81 c81x82 [.sl (.int .i64)] 82 [] [.bool] x xs = law81x82 x xs := by
  have h : codeLawC Try.prog env81x82 200 (L81x82) Try.f81 c81x82 [.sl (.int .i64)] 82 [] [.bool] x xs = (bif decide (List.length x.fst = List.length x.fst) && true && true then (Option.bind (fn93x82 x ()) fun v0 => some ((decide (v0.fst ≥ 0), ()))) else none) := by kernel_rfl
  rw [h]
  unfold law81x82
  simp only [decide_self, decide_true, Nat.zero_add, Bool.and_true, Bool.true_and, cond_true]
noncomputable def fn81x82 (x : ((List Int) × Unit)) (xs : (Unit)) : Option ((Bool × Unit)) := law81x82 x xs
theorem reads81x82 : ReadsC Try.prog 81 [.sl (.int .i64)] 82 [] [.bool] fn81x82 := (ReadsC.of_code mixed (fn := Try.f81) (c := c81x82) Try.func81 (by kernel_rfl) (by kernel_rfl) env81x82 200 (L81x82_fit) (by kernel_rfl)).to (eq81x82)
noncomputable def s81x82 : Summ Try.prog := reads81x82.summ (by kernel_rfl)
noncomputable def s81 : Summ Try.prog := s81x82
/- chicane/pane.Right$1 -/
noncomputable def c80 : Code := (Try.f80.body.getD .skip)
noncomputable def env80 : Env Try.prog := [s81, s82]
noncomputable def L80 : Loops Try.prog := []
theorem L80_fit : (L80).fit c80 := Loops.fit_nil
noncomputable def law80 (x : ((List Int) × Unit)) : Option ((Bool × Unit)) := (Option.bind (fn81x82 x ()) fun v0 => some ((v0.fst, ())))
theorem eq80 (x : Sh.Ts [(Sh.int IntKind.i64).sl]) : codeLaw Try.prog env80 200 (L80) Try.f80 c80 [.sl (.int .i64)] [.bool] x = law80 x := by
  have h : codeLaw Try.prog env80 200 (L80) Try.f80 c80 [.sl (.int .i64)] [.bool] x = (bif decide (List.length x.fst = List.length x.fst) && true && true then (Option.bind (fn81x82 x ()) fun v0 => some ((v0.fst, ()))) else none) := by kernel_rfl
  rw [h]
  unfold law80
  simp only [decide_self, decide_true, Nat.zero_add, Bool.and_true, Bool.true_and, cond_true]
noncomputable def fn80 (x : ((List Int) × Unit)) : Option ((Bool × Unit)) := law80 x
theorem reads80 : Reads Try.prog 80 [.sl (.int .i64)] [.bool] fn80 := (Reads.of_code mixed (fn := Try.f80) (c := c80) Try.func80 (by kernel_rfl) (by kernel_rfl) env80 200 (L80_fit) (by kernel_rfl)).to (eq80)
noncomputable def s80 : Summ Try.prog := reads80.summ
/- chicane/pane.counted$1 -/
noncomputable def c94 : Code := (Try.f94.body.getD .skip)
noncomputable def env94 : Env Try.prog := []
noncomputable def L94 : Loops Try.prog := []
theorem L94_fit : (L94).fit c94 := Loops.fit_nil
noncomputable def law94 (x : (Int × Unit)) : Option ((Bool × Unit)) := (bif decide (2 ≤ x.fst) then some ((decide (x.fst ≤ 32), ())) else some ((false, ())))
theorem eq94 (x : Sh.Ts [Sh.int IntKind.i64]) : codeLaw Try.prog env94 200 (L94) Try.f94 c94 [.int .i64] [.bool] x = law94 x := by kernel_rfl
noncomputable def fn94 (x : (Int × Unit)) : Option ((Bool × Unit)) := law94 x
theorem reads94 : Reads Try.prog 94 [.int .i64] [.bool] fn94 := (Reads.of_code mixed (fn := Try.f94) (c := c94) Try.func94 (by kernel_rfl) (by kernel_rfl) env94 200 (L94_fit) (by kernel_rfl)).to (eq94)
noncomputable def s94 : Summ Try.prog := reads94.summ
/- chicane/pane.counted$2 -/
noncomputable def c95 : Code := (Try.f95.body.getD .skip)
noncomputable def env95 : Env Try.prog := []
noncomputable def s95 : Summ Try.prog := inlSumm onlyM mixed 95 Try.f95 c95 Try.func95 (by kernel_rfl) (by kernel_rfl) env95 200 [] Loops.fit_nil
/- slices.IndexFunc[[][]chicane/api.Fx,[]chicane/api.Fx] -/
noncomputable def c96x80 : Code := (Try.f96.body.getD .skip)
noncomputable def env96x80 : Env Try.prog := [s80]
noncomputable def b96x80_0 : Code := ((kid ((subAt c96x80 [0, 1, 0, 1]).getD .skip) 0).getD .skip)
noncomputable def kx96x80_0 : Exit → List Nat | .ret => [4] | _ => []
noncomputable def Li96x80_0 (N0 : Nat) : Loops Try.prog := []
noncomputable def ls96x80_0 (N0 : Nat) : LSumm Try.prog := loopSumm mixed env96x80 200 (Li96x80_0 N0) b96x80_0 (Loops.fit_nil) [0, 1, 7, 8] kx96x80_0 (N0)
noncomputable def ln96x80_0 {β : Type} (N0 : Nat) (n : Nat) (t : List AV) (h : Heap) (K : Exit → List AV → Heap → Option β) : Option β := loopN Try.prog env96x80 (Sh.nes [.rows (.int .i64)] + Sh.nes [] + List.length (α := Sh) []) 200 (Li96x80_0 N0) b96x80_0 [0, 1, 7, 8] kx96x80_0 n t h K
noncomputable def L96x80 (N0 : Nat) : Loops Try.prog := [([0, 1, 0, 1], ls96x80_0 N0)]
theorem L96x80_fit (N0 : Nat) : (L96x80 N0).fit c96x80 := Loops.fit_cons (by kernel_rfl) (Loops.fit_nil)
noncomputable def K96x80 : Exit → List AV → Heap → Option (Sh.Ts [.int .i64]) := fun e t h => outK (P := Try.prog) Try.f96 [.int .i64] e t h
noncomputable def rk96x80_0 (N0 : Nat) : Exit → List AV → Heap → Option (Sh.Ts [.int .i64]) := (blkK 0 (seqK Try.prog env96x80 (Sh.nes [.rows (.int .i64)] + Sh.nes [] + List.length (α := Sh) []) 198 (L96x80 N0) [1, 1] ((subAt c96x80 [1, 1]).getD .skip) K96x80))
noncomputable def t96x80_0 (N0 : Nat) (x : Sh.Ts [(Sh.int IntKind.i64).rows]) (i6 : Int) : List AV := [AV.slc 0 0 (List.length x.fst) Cap.low, AV.fn (Fn.func 80) [] [], AV.any, AV.any, AV.any, AV.any, AV.any, AV.val (Value.int IntKind.i64 (↑(List.length x.fst) : Int)), AV.val (Value.int IntKind.i64 i6), AV.any, AV.any, AV.any, AV.any, AV.any, AV.any, AV.any, AV.any, AV.any, AV.any]
noncomputable def h96x80_0 (N0 : Nat) (x : Sh.Ts [(Sh.int IntKind.i64).rows]) (i6 : Int) : Heap := [Ent.live (Blk.mk (Cells.arrs (Sh.int IntKind.i64) x.fst) false none)]
noncomputable def tx96x80_0_0 (N0 : Nat) (x : Sh.Ts [(Sh.int IntKind.i64).rows]) (w9 : Int) : List AV := [AV.any, AV.any, AV.any, AV.any, AV.val (Value.int IntKind.i64 w9), AV.any, AV.any, AV.any, AV.any, AV.any, AV.any, AV.any, AV.any, AV.any, AV.any, AV.any, AV.any, AV.any, AV.any]
noncomputable def hx96x80_0_0 (N0 : Nat) (x : Sh.Ts [(Sh.int IntKind.i64).rows]) (w9 : Int) : Heap := [Ent.live (Blk.mk (Cells.arrs (Sh.int IntKind.i64) x.fst) false none)]
noncomputable def tx96x80_0_1 (N0 : Nat) (x : Sh.Ts [(Sh.int IntKind.i64).rows]) : List AV := [AV.any, AV.any, AV.any, AV.any, AV.any, AV.any, AV.any, AV.any, AV.any, AV.any, AV.any, AV.any, AV.any, AV.any, AV.any, AV.any, AV.any, AV.any, AV.any]
noncomputable def hx96x80_0_1 (N0 : Nat) (x : Sh.Ts [(Sh.int IntKind.i64).rows]) : Heap := [Ent.live (Blk.mk (Cells.arrs (Sh.int IntKind.i64) x.fst) false none)]
noncomputable def law96x80_0 {β : Type} (N0 : Nat) (x : ((List (List Int)) × Unit)) (k0 : Int → Option β) (k1 : Option β) : Nat → Int → Option β
  | 0, _ => none
  | n + 1, i6 => (bif decide (i6 < (↑(List.length x.fst) : Int)) then (bif decide (0 ≤ i6) && decide (i6 < (↑(List.length x.fst) : Int)) then (Option.bind x.fst[i6.toNat]? fun v7 => (Option.bind (fn80 (v7, ())) fun v8 => (bif v8.fst then k0 i6 else law96x80_0 N0 x k0 k1 n (IntKind.i64.wrap (i6 + 1))))) else none) else k1)
theorem leq96x80_0 {β : Type} (N0 : Nat) (x : Sh.Ts [(Sh.int IntKind.i64).rows]) (K : Exit → List AV → Heap → Option β) : ∀ (n : Nat) (i6 : Int), ln96x80_0 N0 n (t96x80_0 N0 x i6) (h96x80_0 N0 x i6) K = law96x80_0 N0 x (fun w9 => K (Exit.ret) (tx96x80_0_0 N0 x w9) (hx96x80_0_0 N0 x w9)) (K (Exit.exit 0) (tx96x80_0_1 N0 x) (hx96x80_0_1 N0 x)) n i6
  | 0, _ => rfl
  | n + 1, i6 => by
    have h : ln96x80_0 N0 (n + 1) (t96x80_0 N0 x i6) (h96x80_0 N0 x i6) K = (bif decide (i6 < (↑(List.length x.fst) : Int)) then (bif decide (0 ≤ i6) && decide (i6 < (↑(List.length x.fst) : Int)) then (Option.bind (x.fst[0 + i6.toNat]?) fun v7 => (bif decide (v7.length = v7.length) && true then (Option.bind (fn80 (v7, ())) fun v8 => (bif v8.fst then K (Exit.ret) (tx96x80_0_0 N0 x i6) (hx96x80_0_0 N0 x i6) else ln96x80_0 N0 n (t96x80_0 N0 x (IntKind.i64.wrap (i6 + 1))) (h96x80_0 N0 x (IntKind.i64.wrap (i6 + 1))) K)) else none)) else none) else K (Exit.exit 0) (tx96x80_0_1 N0 x) (hx96x80_0_1 N0 x)) := by kernel_rfl
    rw [h]
    simp only [decide_self, decide_true, Nat.zero_add, Bool.and_true, Bool.true_and, cond_true, law96x80_0, leq96x80_0 N0 x K n]
theorem rest96x80_0_0 (N0 : Nat) (x : Sh.Ts [(Sh.int IntKind.i64).rows]) (w10 : Int) : rk96x80_0 N0 (Exit.ret) (tx96x80_0_0 N0 x w10) (hx96x80_0_0 N0 x w10) = some ((w10, ())) := by kernel_rfl
theorem rest96x80_0_1 (N0 : Nat) (x : Sh.Ts [(Sh.int IntKind.i64).rows]) : rk96x80_0 N0 (Exit.exit 0) (tx96x80_0_1 N0 x) (hx96x80_0_1 N0 x) = some ((-1, ())) := by kernel_rfl
noncomputable def law96x80 (N0 : Nat) (x : ((List (List Int)) × Unit)) (xs : (Unit)) : Option ((Int × Unit)) := (law96x80_0 N0 x (fun w10 => some ((w10, ()))) (some ((-1, ()))) N0 0)
theorem eq96x80 (N0 : Nat) (x : Sh.Ts [(Sh.int IntKind.i64).rows]) (xs : Sh.Ts []) : codeLawC Try.prog env96x80 200 (L96x80 N0) Try.f96 c96x80 [.rows (.int .i64)] 80 [] [.int .i64] x xs = law96x80 N0 x xs := by
  have h : codeLawC Try.prog env96x80 200 (L96x80 N0) Try.f96 c96x80 [.rows (.int .i64)] 80 [] [.int .i64] x xs = (ln96x80_0 N0 N0 (t96x80_0 N0 x 0) (h96x80_0 N0 x 0) (rk96x80_0 N0)) := by kernel_rfl
  rw [h]
  unfold law96x80
  simp only [decide_self, decide_true, Nat.zero_add, Bool.and_true, Bool.true_and, cond_true, leq96x80_0, rest96x80_0_0, rest96x80_0_1]
noncomputable def fn96x80 (x : ((List (List Int)) × Unit)) (xs : (Unit)) : Option ((Int × Unit)) := law96x80 (10 ^ 30) x xs
theorem reads96x80 : ReadsC Try.prog 96 [.rows (.int .i64)] 80 [] [.int .i64] fn96x80 := (ReadsC.of_code mixed (fn := Try.f96) (c := c96x80) Try.func96 (by kernel_rfl) (by kernel_rfl) env96x80 200 (L96x80_fit _) (by kernel_rfl)).to (eq96x80 _)
noncomputable def s96x80 : Summ Try.prog := reads96x80.summ (by kernel_rfl)
/- slices.IndexFunc[[][]chicane/api.Fx,[]chicane/api.Fx] -/
noncomputable def c96x95 : Code := (Try.f96.body.getD .skip)
noncomputable def env96x95 : Env Try.prog := [s95]
noncomputable def b96x95_0 : Code := ((kid ((subAt c96x95 [0, 1, 0, 1]).getD .skip) 0).getD .skip)
noncomputable def kx96x95_0 : Exit → List Nat | .ret => [4] | _ => []
noncomputable def Li96x95_0 (N0 : Nat) : Loops Try.prog := []
noncomputable def ls96x95_0 (N0 : Nat) : LSumm Try.prog := loopSumm mixed env96x95 200 (Li96x95_0 N0) b96x95_0 (Loops.fit_nil) [0, 1, 7, 8] kx96x95_0 (N0)
noncomputable def ln96x95_0 {β : Type} (N0 : Nat) (n : Nat) (t : List AV) (h : Heap) (K : Exit → List AV → Heap → Option β) : Option β := loopN Try.prog env96x95 (Sh.nes [.rows (.int .i64)] + Sh.nes [PaneSh] + List.length (α := Sh) [PaneSh]) 200 (Li96x95_0 N0) b96x95_0 [0, 1, 7, 8] kx96x95_0 n t h K
noncomputable def L96x95 (N0 : Nat) : Loops Try.prog := [([0, 1, 0, 1], ls96x95_0 N0)]
theorem L96x95_fit (N0 : Nat) : (L96x95 N0).fit c96x95 := Loops.fit_cons (by kernel_rfl) (Loops.fit_nil)
noncomputable def K96x95 : Exit → List AV → Heap → Option (Sh.Ts [.int .i64]) := fun e t h => outK (P := Try.prog) Try.f96 [.int .i64] e t h
noncomputable def rk96x95_0 (N0 : Nat) : Exit → List AV → Heap → Option (Sh.Ts [.int .i64]) := (blkK 0 (seqK Try.prog env96x95 (Sh.nes [.rows (.int .i64)] + Sh.nes [PaneSh] + List.length (α := Sh) [PaneSh]) 198 (L96x95 N0) [1, 1] ((subAt c96x95 [1, 1]).getD .skip) K96x95))
noncomputable def t96x95_0 (N0 : Nat) (x : Sh.Ts [(Sh.int IntKind.i64).rows]) (xs : Sh.Ts [PaneSh]) (i11 : Int) : List AV := [AV.slc 0 0 (List.length x.fst) Cap.low, AV.fn (Fn.func 95) [] [AV.ptr 4 0], AV.any, AV.any, AV.any, AV.any, AV.any, AV.val (Value.int IntKind.i64 (↑(List.length x.fst) : Int)), AV.val (Value.int IntKind.i64 i11), AV.any, AV.any, AV.any, AV.any, AV.any, AV.any, AV.any, AV.any, AV.any, AV.any]
noncomputable def h96x95_0 (N0 : Nat) (x : Sh.Ts [(Sh.int IntKind.i64).rows]) (xs : Sh.Ts [PaneSh]) (i11 : Int) : Heap := [Ent.live (Blk.mk (Cells.arrs (Sh.int IntKind.i64) x.fst) false none), Ent.live (Blk.mk (Cells.arr (Sh.int IntKind.i64) xs.fst.fst) false none), Ent.live (Blk.mk (Cells.arr (Sh.int IntKind.i64) xs.fst.snd.fst) false none), Ent.live (Blk.mk (Cells.arrs (Sh.int IntKind.i64) xs.fst.snd.snd.fst) false none), Ent.live (Blk.mk (Cells.lit [AV.slc 1 0 (List.length xs.fst.fst) Cap.low, AV.slc 2 0 (List.length xs.fst.snd.fst) Cap.low, AV.slc 3 0 (List.length xs.fst.snd.snd.fst) Cap.low]) false none)]
noncomputable def tx96x95_0_0 (N0 : Nat) (x : Sh.Ts [(Sh.int IntKind.i64).rows]) (xs : Sh.Ts [PaneSh]) (w13 : Int) : List AV := [AV.any, AV.any, AV.any, AV.any, AV.val (Value.int IntKind.i64 w13), AV.any, AV.any, AV.any, AV.any, AV.any, AV.any, AV.any, AV.any, AV.any, AV.any, AV.any, AV.any, AV.any, AV.any]
noncomputable def hx96x95_0_0 (N0 : Nat) (x : Sh.Ts [(Sh.int IntKind.i64).rows]) (xs : Sh.Ts [PaneSh]) (w13 : Int) : Heap := [Ent.live (Blk.mk (Cells.arrs (Sh.int IntKind.i64) x.fst) false none), Ent.live (Blk.mk (Cells.arr (Sh.int IntKind.i64) xs.fst.fst) false none), Ent.live (Blk.mk (Cells.arr (Sh.int IntKind.i64) xs.fst.snd.fst) false none), Ent.live (Blk.mk (Cells.arrs (Sh.int IntKind.i64) xs.fst.snd.snd.fst) false none), Ent.live (Blk.mk (Cells.lit [AV.slc 1 0 (List.length xs.fst.fst) Cap.low, AV.slc 2 0 (List.length xs.fst.snd.fst) Cap.low, AV.slc 3 0 (List.length xs.fst.snd.snd.fst) Cap.low]) false none)]
noncomputable def tx96x95_0_1 (N0 : Nat) (x : Sh.Ts [(Sh.int IntKind.i64).rows]) (xs : Sh.Ts [PaneSh]) : List AV := [AV.any, AV.any, AV.any, AV.any, AV.any, AV.any, AV.any, AV.any, AV.any, AV.any, AV.any, AV.any, AV.any, AV.any, AV.any, AV.any, AV.any, AV.any, AV.any]
noncomputable def hx96x95_0_1 (N0 : Nat) (x : Sh.Ts [(Sh.int IntKind.i64).rows]) (xs : Sh.Ts [PaneSh]) : Heap := [Ent.live (Blk.mk (Cells.arrs (Sh.int IntKind.i64) x.fst) false none), Ent.live (Blk.mk (Cells.arr (Sh.int IntKind.i64) xs.fst.fst) false none), Ent.live (Blk.mk (Cells.arr (Sh.int IntKind.i64) xs.fst.snd.fst) false none), Ent.live (Blk.mk (Cells.arrs (Sh.int IntKind.i64) xs.fst.snd.snd.fst) false none), Ent.live (Blk.mk (Cells.lit [AV.slc 1 0 (List.length xs.fst.fst) Cap.low, AV.slc 2 0 (List.length xs.fst.snd.fst) Cap.low, AV.slc 3 0 (List.length xs.fst.snd.snd.fst) Cap.low]) false none)]
noncomputable def law96x95_0 {β : Type} (N0 : Nat) (x : ((List (List Int)) × Unit)) (xs : (PaneT × Unit)) (k0 : Int → Option β) (k1 : Option β) : Nat → Int → Option β
  | 0, _ => none
  | n + 1, i11 => (bif decide (i11 < (↑(List.length x.fst) : Int)) then (bif decide (0 ≤ i11) && decide (i11 < (↑(List.length x.fst) : Int)) then (Option.bind x.fst[i11.toNat]? fun v12 => (bif (↑v12.length : Int) != (↑(List.length xs.fst.fst) : Int) then k0 i11 else law96x95_0 N0 x xs k0 k1 n (IntKind.i64.wrap (i11 + 1)))) else none) else k1)
theorem leq96x95_0 {β : Type} (N0 : Nat) (x : Sh.Ts [(Sh.int IntKind.i64).rows]) (xs : Sh.Ts [PaneSh]) (K : Exit → List AV → Heap → Option β) : ∀ (n : Nat) (i11 : Int), ln96x95_0 N0 n (t96x95_0 N0 x xs i11) (h96x95_0 N0 x xs i11) K = law96x95_0 N0 x xs (fun w13 => K (Exit.ret) (tx96x95_0_0 N0 x xs w13) (hx96x95_0_0 N0 x xs w13)) (K (Exit.exit 0) (tx96x95_0_1 N0 x xs) (hx96x95_0_1 N0 x xs)) n i11
  | 0, _ => rfl
  | n + 1, i11 => by
    have h : ln96x95_0 N0 (n + 1) (t96x95_0 N0 x xs i11) (h96x95_0 N0 x xs i11) K = (bif decide (i11 < (↑(List.length x.fst) : Int)) then (bif decide (0 ≤ i11) && decide (i11 < (↑(List.length x.fst) : Int)) then (Option.bind (x.fst[0 + i11.toNat]?) fun v12 => (bif (↑v12.length : Int) != (↑(List.length xs.fst.fst) : Int) then K (Exit.ret) (tx96x95_0_0 N0 x xs i11) (hx96x95_0_0 N0 x xs i11) else ln96x95_0 N0 n (t96x95_0 N0 x xs (IntKind.i64.wrap (i11 + 1))) (h96x95_0 N0 x xs (IntKind.i64.wrap (i11 + 1))) K)) else none) else K (Exit.exit 0) (tx96x95_0_1 N0 x xs) (hx96x95_0_1 N0 x xs)) := by kernel_rfl
    rw [h]
    simp only [decide_self, decide_true, Nat.zero_add, Bool.and_true, Bool.true_and, cond_true, law96x95_0, leq96x95_0 N0 x xs K n]
theorem rest96x95_0_0 (N0 : Nat) (x : Sh.Ts [(Sh.int IntKind.i64).rows]) (xs : Sh.Ts [PaneSh]) (w14 : Int) : rk96x95_0 N0 (Exit.ret) (tx96x95_0_0 N0 x xs w14) (hx96x95_0_0 N0 x xs w14) = some ((w14, ())) := by kernel_rfl
theorem rest96x95_0_1 (N0 : Nat) (x : Sh.Ts [(Sh.int IntKind.i64).rows]) (xs : Sh.Ts [PaneSh]) : rk96x95_0 N0 (Exit.exit 0) (tx96x95_0_1 N0 x xs) (hx96x95_0_1 N0 x xs) = some ((-1, ())) := by kernel_rfl
noncomputable def law96x95 (N0 : Nat) (x : ((List (List Int)) × Unit)) (xs : (PaneT × Unit)) : Option ((Int × Unit)) := (law96x95_0 N0 x xs (fun w14 => some ((w14, ()))) (some ((-1, ()))) N0 0)
theorem eq96x95 (N0 : Nat) (x : Sh.Ts [(Sh.int IntKind.i64).rows]) (xs : Sh.Ts [PaneSh]) : codeLawC Try.prog env96x95 200 (L96x95 N0) Try.f96 c96x95 [.rows (.int .i64)] 95 [PaneSh] [.int .i64] x xs = law96x95 N0 x xs := by
  have h : codeLawC Try.prog env96x95 200 (L96x95 N0) Try.f96 c96x95 [.rows (.int .i64)] 95 [PaneSh] [.int .i64] x xs = (ln96x95_0 N0 N0 (t96x95_0 N0 x xs 0) (h96x95_0 N0 x xs 0) (rk96x95_0 N0)) := by kernel_rfl
  rw [h]
  unfold law96x95
  simp only [decide_self, decide_true, Nat.zero_add, Bool.and_true, Bool.true_and, cond_true, leq96x95_0, rest96x95_0_0, rest96x95_0_1]
noncomputable def fn96x95 (x : ((List (List Int)) × Unit)) (xs : (PaneT × Unit)) : Option ((Int × Unit)) := law96x95 (10 ^ 30) x xs
theorem reads96x95 : ReadsC Try.prog 96 [.rows (.int .i64)] 95 [PaneSh] [.int .i64] fn96x95 := (ReadsC.of_code mixed (fn := Try.f96) (c := c96x95) Try.func96 (by kernel_rfl) (by kernel_rfl) env96x95 200 (L96x95_fit _) (by kernel_rfl)).to (eq96x95 _)
noncomputable def s96x95 : Summ Try.prog := reads96x95.summ (by kernel_rfl)
noncomputable def s96 : Summ Try.prog := (Summ.choose (lastFn 80) s96x80 s96x95 rfl)
/- slices.ContainsFunc[[][]chicane/api.Fx,[]chicane/api.Fx] -/
noncomputable def c84x80 : Code := (Try.f84.body.getD .skip)
noncomputable def env84x80 : Env Try.prog := [s96, s80]
noncomputable def L84x80 : Loops Try.prog := []
theorem L84x80_fit : (L84x80).fit c84x80 := Loops.fit_nil
noncomputable def law84x80 (x : ((List (List Int)) × Unit)) (xs : (Unit)) : Option ((Bool × Unit)) := (Option.bind (fn96x80 x ()) fun v0 => some ((decide (v0.fst ≥ 0), ())))
theorem eq84x80 (x : Sh.Ts [(Sh.int IntKind.i64).rows]) (xs : Sh.Ts []) : codeLawC Try.prog env84x80 200 (L84x80) Try.f84 c84x80 [.rows (.int .i64)] 80 [] [.bool] x xs = law84x80 x xs := by
  have h : codeLawC Try.prog env84x80 200 (L84x80) Try.f84 c84x80 [.rows (.int .i64)] 80 [] [.bool] x xs = (bif decide (List.length x.fst = List.length x.fst) && true && true then (Option.bind (fn96x80 x ()) fun v0 => some ((decide (v0.fst ≥ 0), ()))) else none) := by kernel_rfl
  rw [h]
  unfold law84x80
  simp only [decide_self, decide_true, Nat.zero_add, Bool.and_true, Bool.true_and, cond_true]
noncomputable def fn84x80 (x : ((List (List Int)) × Unit)) (xs : (Unit)) : Option ((Bool × Unit)) := law84x80 x xs
theorem reads84x80 : ReadsC Try.prog 84 [.rows (.int .i64)] 80 [] [.bool] fn84x80 := (ReadsC.of_code mixed (fn := Try.f84) (c := c84x80) Try.func84 (by kernel_rfl) (by kernel_rfl) env84x80 200 (L84x80_fit) (by kernel_rfl)).to (eq84x80)
noncomputable def s84x80 : Summ Try.prog := reads84x80.summ (by kernel_rfl)
/- slices.ContainsFunc[[][]chicane/api.Fx,[]chicane/api.Fx] -/
noncomputable def c84x95 : Code := (Try.f84.body.getD .skip)
noncomputable def env84x95 : Env Try.prog := [s96, s95]
noncomputable def L84x95 : Loops Try.prog := []
theorem L84x95_fit : (L84x95).fit c84x95 := Loops.fit_nil
noncomputable def law84x95 (x : ((List (List Int)) × Unit)) (xs : (PaneT × Unit)) : Option ((Bool × Unit)) := (Option.bind (fn96x95 x xs) fun v0 => some ((decide (v0.fst ≥ 0), ())))
theorem eq84x95 (x : Sh.Ts [(Sh.int IntKind.i64).rows]) (xs : Sh.Ts [PaneSh]) : codeLawC Try.prog env84x95 200 (L84x95) Try.f84 c84x95 [.rows (.int .i64)] 95 [PaneSh] [.bool] x xs = law84x95 x xs := by
  have h : codeLawC Try.prog env84x95 200 (L84x95) Try.f84 c84x95 [.rows (.int .i64)] 95 [PaneSh] [.bool] x xs = (bif decide (List.length x.fst = List.length x.fst) && true && (decide (List.length xs.fst.fst = List.length xs.fst.fst) && (decide (List.length xs.fst.snd.fst = List.length xs.fst.snd.fst) && (decide (List.length xs.fst.snd.snd.fst = List.length xs.fst.snd.snd.fst) && true)) && true) then (Option.bind (fn96x95 x xs) fun v0 => some ((decide (v0.fst ≥ 0), ()))) else none) := by kernel_rfl
  rw [h]
  unfold law84x95
  simp only [decide_self, decide_true, Nat.zero_add, Bool.and_true, Bool.true_and, cond_true]
noncomputable def fn84x95 (x : ((List (List Int)) × Unit)) (xs : (PaneT × Unit)) : Option ((Bool × Unit)) := law84x95 x xs
theorem reads84x95 : ReadsC Try.prog 84 [.rows (.int .i64)] 95 [PaneSh] [.bool] fn84x95 := (ReadsC.of_code mixed (fn := Try.f84) (c := c84x95) Try.func84 (by kernel_rfl) (by kernel_rfl) env84x95 200 (L84x95_fit) (by kernel_rfl)).to (eq84x95)
noncomputable def s84x95 : Summ Try.prog := reads84x95.summ (by kernel_rfl)
noncomputable def s84 : Summ Try.prog := (Summ.choose (lastFn 80) s84x80 s84x95 rfl)
/- chicane/pane.counted -/
noncomputable def c83 : Code := (Try.f83.body.getD .skip)
noncomputable def env83 : Env Try.prog := [s94, s95, s84]
noncomputable def L83 : Loops Try.prog := []
theorem L83_fit : (L83).fit c83 := Loops.fit_nil
noncomputable def law83 (x : (PaneT × Unit)) : Option ((Bool × Unit)) := (Option.bind (fn94 ((↑(List.length x.fst.fst) : Int), ())) fun v0 => (bif v0.fst then (Option.bind (fn94 ((↑(List.length x.fst.snd.fst) : Int), ())) fun v1 => (bif v1.fst then (bif (↑(List.length x.fst.snd.snd.fst) : Int) == (↑(List.length x.fst.snd.fst) : Int) then (Option.bind (fn84x95 x.fst.snd.snd x) fun v2 => some ((!v2.fst, ()))) else some ((false, ()))) else some ((false, ())))) else some ((false, ()))))
theorem eq83 (x : Sh.Ts [PaneSh]) : codeLaw Try.prog env83 200 (L83) Try.f83 c83 [PaneSh] [.bool] x = law83 x := by
  have h : codeLaw Try.prog env83 200 (L83) Try.f83 c83 [PaneSh] [.bool] x = (Option.bind (fn94 ((↑(List.length x.fst.fst) : Int), ())) fun v0 => (bif v0.fst then (Option.bind (fn94 ((↑(List.length x.fst.snd.fst) : Int), ())) fun v1 => (bif v1.fst then (bif (↑(List.length x.fst.snd.snd.fst) : Int) == (↑(List.length x.fst.snd.fst) : Int) then (bif decide (List.length x.fst.snd.snd.fst = List.length x.fst.snd.snd.fst) && true && (decide (List.length x.fst.fst = List.length x.fst.fst) && (decide (List.length x.fst.snd.fst = List.length x.fst.snd.fst) && (decide (List.length x.fst.snd.snd.fst = List.length x.fst.snd.snd.fst) && true)) && true) then (Option.bind (fn84x95 x.fst.snd.snd x) fun v2 => some ((!v2.fst, ()))) else none) else some ((false, ()))) else some ((false, ())))) else some ((false, ())))) := by kernel_rfl
  rw [h]
  unfold law83
  simp only [decide_self, decide_true, Nat.zero_add, Bool.and_true, Bool.true_and, cond_true]
noncomputable def fn83 (x : (PaneT × Unit)) : Option ((Bool × Unit)) := law83 x
theorem reads83 : Reads Try.prog 83 [PaneSh] [.bool] fn83 := (Reads.of_code mixed (fn := Try.f83) (c := c83) Try.func83 (by kernel_rfl) (by kernel_rfl) env83 200 (L83_fit) (by kernel_rfl)).to (eq83)
noncomputable def s83 : Summ Try.prog := reads83.summ
/- chicane/pane.rises$1 -/
noncomputable def c98 : Code := (Try.f98.body.getD .skip)
noncomputable def env98 : Env Try.prog := []
noncomputable def L98 : Loops Try.prog := []
theorem L98_fit : (L98).fit c98 := Loops.fit_nil
noncomputable def law98 (x : (Int × Int × Unit)) : Option ((Int × Unit)) := (bif decide (x.fst > x.snd.fst) then some ((1, ())) else some ((-1, ())))
theorem eq98 (x : Sh.Ts [Sh.int IntKind.i64, Sh.int IntKind.i64]) : codeLaw Try.prog env98 200 (L98) Try.f98 c98 [.int .i64, .int .i64] [.int .i64] x = law98 x := by kernel_rfl
noncomputable def fn98 (x : (Int × Int × Unit)) : Option ((Int × Unit)) := law98 x
theorem reads98 : Reads Try.prog 98 [.int .i64, .int .i64] [.int .i64] fn98 := (Reads.of_code mixed (fn := Try.f98) (c := c98) Try.func98 (by kernel_rfl) (by kernel_rfl) env98 200 (L98_fit) (by kernel_rfl)).to (eq98)
noncomputable def s98 : Summ Try.prog := reads98.summ
/- slices.IsSortedFunc[[]chicane/api.Fx,chicane/api.Fx] -/
noncomputable def c97x98 : Code := (Try.f97.body.getD .skip)
noncomputable def env97x98 : Env Try.prog := [s98]
noncomputable def b97x98_0 : Code := ((kid ((subAt c97x98 [0, 1, 0, 1]).getD .skip) 0).getD .skip)
noncomputable def kx97x98_0 : Exit → List Nat | .ret => [4] | _ => []
noncomputable def Li97x98_0 (N0 : Nat) : Loops Try.prog := []
noncomputable def ls97x98_0 (N0 : Nat) : LSumm Try.prog := loopSumm mixed env97x98 200 (Li97x98_0 N0) b97x98_0 (Loops.fit_nil) [0, 1, 5] kx97x98_0 (N0)
noncomputable def ln97x98_0 {β : Type} (N0 : Nat) (n : Nat) (t : List AV) (h : Heap) (K : Exit → List AV → Heap → Option β) : Option β := loopN Try.prog env97x98 (Sh.nes [.sl (.int .i64)] + Sh.nes [] + List.length (α := Sh) []) 200 (Li97x98_0 N0) b97x98_0 [0, 1, 5] kx97x98_0 n t h K
noncomputable def L97x98 (N0 : Nat) : Loops Try.prog := [([0, 1, 0, 1], ls97x98_0 N0)]
theorem L97x98_fit (N0 : Nat) : (L97x98 N0).fit c97x98 := Loops.fit_cons (by kernel_rfl) (Loops.fit_nil)
noncomputable def K97x98 : Exit → List AV → Heap → Option (Sh.Ts [.bool]) := fun e t h => outK (P := Try.prog) Try.f97 [.bool] e t h
noncomputable def rk97x98_0 (N0 : Nat) : Exit → List AV → Heap → Option (Sh.Ts [.bool]) := (blkK 0 (seqK Try.prog env97x98 (Sh.nes [.sl (.int .i64)] + Sh.nes [] + List.length (α := Sh) []) 198 (L97x98 N0) [1, 1] ((subAt c97x98 [1, 1]).getD .skip) K97x98))
noncomputable def t97x98_0 (N0 : Nat) (x : Sh.Ts [(Sh.int IntKind.i64).sl]) (i6 : Int) : List AV := [AV.slc 0 0 (List.length x.fst) Cap.low, AV.fn (Fn.func 98) [] [], AV.any, AV.any, AV.any, AV.val (Value.int IntKind.i64 i6), AV.any, AV.any, AV.any, AV.any, AV.any, AV.any, AV.any, AV.any, AV.any, AV.any, AV.any, AV.any, AV.any, AV.any, AV.any, AV.any, AV.any, AV.any, AV.any]
noncomputable def h97x98_0 (N0 : Nat) (x : Sh.Ts [(Sh.int IntKind.i64).sl]) (i6 : Int) : Heap := [Ent.live (Blk.mk (Cells.arr (Sh.int IntKind.i64) x.fst) false none)]
noncomputable def tx97x98_0_0 (N0 : Nat) (x : Sh.Ts [(Sh.int IntKind.i64).sl]) : List AV := [AV.any, AV.any, AV.any, AV.any, AV.val (Value.bool false), AV.any, AV.any, AV.any, AV.any, AV.any, AV.any, AV.any, AV.any, AV.any, AV.any, AV.any, AV.any, AV.any, AV.any, AV.any, AV.any, AV.any, AV.any, AV.any, AV.any]
noncomputable def hx97x98_0_0 (N0 : Nat) (x : Sh.Ts [(Sh.int IntKind.i64).sl]) : Heap := [Ent.live (Blk.mk (Cells.arr (Sh.int IntKind.i64) x.fst) false none)]
noncomputable def tx97x98_0_1 (N0 : Nat) (x : Sh.Ts [(Sh.int IntKind.i64).sl]) : List AV := [AV.any, AV.any, AV.any, AV.any, AV.any, AV.any, AV.any, AV.any, AV.any, AV.any, AV.any, AV.any, AV.any, AV.any, AV.any, AV.any, AV.any, AV.any, AV.any, AV.any, AV.any, AV.any, AV.any, AV.any, AV.any]
noncomputable def hx97x98_0_1 (N0 : Nat) (x : Sh.Ts [(Sh.int IntKind.i64).sl]) : Heap := [Ent.live (Blk.mk (Cells.arr (Sh.int IntKind.i64) x.fst) false none)]
noncomputable def law97x98_0 {β : Type} (N0 : Nat) (x : ((List Int) × Unit)) (k0 : Option β) (k1 : Option β) : Nat → Int → Option β
  | 0, _ => none
  | n + 1, i6 => (bif decide (i6 > 0) then (bif decide (0 ≤ i6) && decide (i6 < (↑(List.length x.fst) : Int)) then (Option.bind x.fst[i6.toNat]? fun v7 => (bif decide (0 ≤ IntKind.i64.wrap (i6 - 1)) && decide (IntKind.i64.wrap (i6 - 1) < (↑(List.length x.fst) : Int)) then (Option.bind (x.fst[(IntKind.i64.wrap (i6 - 1)).toNat]?) fun v8 => (Option.bind (fn98 (v7, v8, ())) fun v9 => (bif decide (v9.fst < 0) then k0 else law97x98_0 N0 x k0 k1 n (IntKind.i64.wrap (i6 - 1))))) else none)) else none) else k1)
theorem leq97x98_0 {β : Type} (N0 : Nat) (x : Sh.Ts [(Sh.int IntKind.i64).sl]) (K : Exit → List AV → Heap → Option β) : ∀ (n : Nat) (i6 : Int), ln97x98_0 N0 n (t97x98_0 N0 x i6) (h97x98_0 N0 x i6) K = law97x98_0 N0 x (K (Exit.ret) (tx97x98_0_0 N0 x) (hx97x98_0_0 N0 x)) (K (Exit.exit 0) (tx97x98_0_1 N0 x) (hx97x98_0_1 N0 x)) n i6
  | 0, _ => rfl
  | n + 1, i6 => by
    have h : ln97x98_0 N0 (n + 1) (t97x98_0 N0 x i6) (h97x98_0 N0 x i6) K = (bif decide (i6 > 0) then (bif decide (0 ≤ i6) && decide (i6 < (↑(List.length x.fst) : Int)) then (Option.bind (x.fst[0 + i6.toNat]?) fun v7 => (bif decide (0 ≤ IntKind.i64.wrap (i6 - 1)) && decide (IntKind.i64.wrap (i6 - 1) < (↑(List.length x.fst) : Int)) then (Option.bind (x.fst[0 + (IntKind.i64.wrap (i6 - 1)).toNat]?) fun v8 => (Option.bind (fn98 (v7, v8, ())) fun v9 => (bif decide (v9.fst < 0) then K (Exit.ret) (tx97x98_0_0 N0 x) (hx97x98_0_0 N0 x) else ln97x98_0 N0 n (t97x98_0 N0 x (IntKind.i64.wrap (i6 - 1))) (h97x98_0 N0 x (IntKind.i64.wrap (i6 - 1))) K))) else none)) else none) else K (Exit.exit 0) (tx97x98_0_1 N0 x) (hx97x98_0_1 N0 x)) := by kernel_rfl
    rw [h]
    simp only [decide_self, decide_true, Nat.zero_add, Bool.and_true, Bool.true_and, cond_true, law97x98_0, leq97x98_0 N0 x K n]
theorem rest97x98_0_0 (N0 : Nat) (x : Sh.Ts [(Sh.int IntKind.i64).sl]) : rk97x98_0 N0 (Exit.ret) (tx97x98_0_0 N0 x) (hx97x98_0_0 N0 x) = some ((false, ())) := by kernel_rfl
theorem rest97x98_0_1 (N0 : Nat) (x : Sh.Ts [(Sh.int IntKind.i64).sl]) : rk97x98_0 N0 (Exit.exit 0) (tx97x98_0_1 N0 x) (hx97x98_0_1 N0 x) = some ((true, ())) := by kernel_rfl
noncomputable def law97x98 (N0 : Nat) (x : ((List Int) × Unit)) (xs : (Unit)) : Option ((Bool × Unit)) := (law97x98_0 N0 x (some ((false, ()))) (some ((true, ()))) N0 (IntKind.i64.wrap ((↑(List.length x.fst) : Int) - 1)))
theorem eq97x98 (N0 : Nat) (x : Sh.Ts [(Sh.int IntKind.i64).sl]) (xs : Sh.Ts []) : codeLawC Try.prog env97x98 200 (L97x98 N0) Try.f97 c97x98 [.sl (.int .i64)] 98 [] [.bool] x xs = law97x98 N0 x xs := by
  have h : codeLawC Try.prog env97x98 200 (L97x98 N0) Try.f97 c97x98 [.sl (.int .i64)] 98 [] [.bool] x xs = (ln97x98_0 N0 N0 (t97x98_0 N0 x (IntKind.i64.wrap ((↑(List.length x.fst) : Int) - 1))) (h97x98_0 N0 x (IntKind.i64.wrap ((↑(List.length x.fst) : Int) - 1))) (rk97x98_0 N0)) := by kernel_rfl
  rw [h]
  unfold law97x98
  simp only [decide_self, decide_true, Nat.zero_add, Bool.and_true, Bool.true_and, cond_true, leq97x98_0, rest97x98_0_0, rest97x98_0_1]
noncomputable def fn97x98 (x : ((List Int) × Unit)) (xs : (Unit)) : Option ((Bool × Unit)) := law97x98 (10 ^ 30) x xs
theorem reads97x98 : ReadsC Try.prog 97 [.sl (.int .i64)] 98 [] [.bool] fn97x98 := (ReadsC.of_code mixed (fn := Try.f97) (c := c97x98) Try.func97 (by kernel_rfl) (by kernel_rfl) env97x98 200 (L97x98_fit _) (by kernel_rfl)).to (eq97x98 _)
noncomputable def s97x98 : Summ Try.prog := reads97x98.summ (by kernel_rfl)
noncomputable def s97 : Summ Try.prog := s97x98
/- chicane/pane.rises -/
noncomputable def c85 : Code := (Try.f85.body.getD .skip)
noncomputable def env85 : Env Try.prog := [s97, s98]
noncomputable def L85 : Loops Try.prog := []
theorem L85_fit : (L85).fit c85 := Loops.fit_nil
noncomputable def law85 (x : ((List Int) × Unit)) : Option ((Bool × Unit)) := (Option.bind (fn97x98 x ()) fun v0 => some ((v0.fst, ())))
theorem eq85 (x : Sh.Ts [(Sh.int IntKind.i64).sl]) : codeLaw Try.prog env85 200 (L85) Try.f85 c85 [.sl (.int .i64)] [.bool] x = law85 x := by
  have h : codeLaw Try.prog env85 200 (L85) Try.f85 c85 [.sl (.int .i64)] [.bool] x = (bif decide (List.length x.fst = List.length x.fst) && true && true then (Option.bind (fn97x98 x ()) fun v0 => some ((v0.fst, ()))) else none) := by kernel_rfl
  rw [h]
  unfold law85
  simp only [decide_self, decide_true, Nat.zero_add, Bool.and_true, Bool.true_and, cond_true]
noncomputable def fn85 (x : ((List Int) × Unit)) : Option ((Bool × Unit)) := law85 x
theorem reads85 : Reads Try.prog 85 [.sl (.int .i64)] [.bool] fn85 := (Reads.of_code mixed (fn := Try.f85) (c := c85) Try.func85 (by kernel_rfl) (by kernel_rfl) env85 200 (L85_fit) (by kernel_rfl)).to (eq85)
noncomputable def s85 : Summ Try.prog := reads85.summ
/- chicane/car.body -/
noncomputable def c41 : Code := (Try.f41.body.getD .skip)
noncomputable def env41 : Env Try.prog := [s43]
noncomputable def L41 : Loops Try.prog := []
theorem L41_fit : (L41).fit c41 := Loops.fit_nil
noncomputable def law41 (x : (CarT × Unit)) : Option ((Int × Unit)) := (Option.bind (fn43 ([(x.fst.fst, 274877906944, 35184372088832, ()), (x.fst.snd.fst.fst, 68719476736, 281474976710656, ()), (x.fst.snd.fst.snd.fst, 68719476736, 281474976710656, ()), (x.fst.snd.fst.snd.snd.fst, 68719476736, 281474976710656, ()), (x.fst.snd.snd.snd.snd.snd.snd.snd.snd.snd.snd.snd.snd.snd.snd.snd.snd.snd.snd.snd.snd.snd.snd.snd.snd.snd.fst, 2147483648, 17179869184, ()), (x.fst.snd.snd.snd.snd.snd.snd.snd.snd.snd.snd.snd.snd.snd.snd.snd.snd.snd.snd.snd.snd.snd.snd.snd.snd.snd.snd.fst, 0, 4294967296, ()), (x.fst.snd.snd.snd.snd.snd.snd.snd.snd.snd.snd.snd.snd.snd.snd.snd.snd.snd.snd.snd.snd.snd.snd.snd.snd.snd.snd.snd.fst, 0, 4294967296, ())], ())) fun v0 => some ((v0.fst, ())))
theorem eq41 (x : Sh.Ts [CarSh]) : codeLaw Try.prog env41 200 (L41) Try.f41 c41 [CarSh] [.int .i64] x = law41 x := by kernel_rfl
noncomputable def fn41 (x : (CarT × Unit)) : Option ((Int × Unit)) := law41 x
theorem reads41 : Reads Try.prog 41 [CarSh] [.int .i64] fn41 := (Reads.of_code mixed (fn := Try.f41) (c := c41) Try.func41 (by kernel_rfl) (by kernel_rfl) env41 200 (L41_fit) (by kernel_rfl)).to (eq41)
noncomputable def s41 : Summ Try.prog := reads41.summ
/- chicane/car.wheel -/
noncomputable def c42 : Code := (Try.f42.body.getD .skip)
noncomputable def env42 : Env Try.prog := [s43]
noncomputable def L42 : Loops Try.prog := []
theorem L42_fit : (L42).fit c42 := Loops.fit_nil
noncomputable def law42 (x : (WheelT × Unit)) : Option ((Int × Unit)) := (Option.bind (fn43 ([(x.fst.fst.fst, -17179869184, 17179869184, ()), (x.fst.fst.snd.fst, -17179869184, 17179869184, ()), (x.fst.fst.snd.snd.fst, -8589934592, 8589934592, ()), (x.fst.snd.fst, 536870912, 4294967296, ()), (x.fst.snd.snd.fst, 536870912, 274877906944, ()), (x.fst.snd.snd.snd.fst, 4398046511104, 1125899906842624, ()), (x.fst.snd.snd.snd.snd.fst, 67108864, 2147483648, ()), (x.fst.snd.snd.snd.snd.snd.fst, 0, 4503599627370496, ())], ())) fun v0 => some ((v0.fst, ())))
theorem eq42 (x : Sh.Ts [WheelSh]) : codeLaw Try.prog env42 200 (L42) Try.f42 c42 [WheelSh] [.int .i64] x = law42 x := by kernel_rfl
noncomputable def fn42 (x : (WheelT × Unit)) : Option ((Int × Unit)) := law42 x
theorem reads42 : Reads Try.prog 42 [WheelSh] [.int .i64] fn42 := (Reads.of_code mixed (fn := Try.f42) (c := c42) Try.func42 (by kernel_rfl) (by kernel_rfl) env42 200 (L42_fit) (by kernel_rfl)).to (eq42)
noncomputable def s42 : Summ Try.prog := reads42.summ
noncomputable def s44 : Summ Try.prog := (Summ.choose (lastFn 45) s44x45 s44x47 rfl)
/- chicane/pane.Right -/
noncomputable def c66 : Code := (Try.f66.body.getD .skip)
noncomputable def env66 : Env Try.prog := [s80, s83, s84, s85]
noncomputable def L66 : Loops Try.prog := []
theorem L66_fit : (L66).fit c66 := Loops.fit_nil
noncomputable def law66 (x : (PaneT × Unit)) : Option ((Int × Unit)) := (Option.bind (fn83 x) fun v0 => (bif !v0.fst then some ((42, ())) else (Option.bind (fn80 (x.fst.fst, ())) fun v1 => (bif v1.fst then some ((40, ())) else (Option.bind (fn80 (x.fst.snd.fst, ())) fun v2 => (bif v2.fst then some ((40, ())) else (Option.bind (fn84x80 x.fst.snd.snd ()) fun v3 => (bif v3.fst then some ((40, ())) else (Option.bind (fn85 (x.fst.fst, ())) fun v4 => (bif !v4.fst then some ((41, ())) else (Option.bind (fn85 (x.fst.snd.fst, ())) fun v5 => (bif !v5.fst then some ((41, ())) else some ((0, ()))))))))))))))
theorem eq66 (x : Sh.Ts [PaneSh]) : codeLaw Try.prog env66 200 (L66) Try.f66 c66 [PaneSh] [.int .i64] x = law66 x := by
  have h : codeLaw Try.prog env66 200 (L66) Try.f66 c66 [PaneSh] [.int .i64] x = (bif decide (List.length x.fst.fst = List.length x.fst.fst) && (decide (List.length x.fst.snd.fst = List.length x.fst.snd.fst) && (decide (List.length x.fst.snd.snd.fst = List.length x.fst.snd.snd.fst) && true)) && true then (Option.bind (fn83 x) fun v0 => (bif !v0.fst then some ((42, ())) else (bif decide (List.length x.fst.fst = List.length x.fst.fst) && true then (Option.bind (fn80 (x.fst.fst, ())) fun v1 => (bif v1.fst then some ((40, ())) else (bif decide (List.length x.fst.snd.fst = List.length x.fst.snd.fst) && true then (Option.bind (fn80 (x.fst.snd.fst, ())) fun v2 => (bif v2.fst then some ((40, ())) else (bif decide (List.length x.fst.snd.snd.fst = List.length x.fst.snd.snd.fst) && true && true then (Option.bind (fn84x80 x.fst.snd.snd ()) fun v3 => (bif v3.fst then some ((40, ())) else (bif decide (List.length x.fst.fst = List.length x.fst.fst) && true then (Option.bind (fn85 (x.fst.fst, ())) fun v4 => (bif !v4.fst then some ((41, ())) else (bif decide (List.length x.fst.snd.fst = List.length x.fst.snd.fst) && true then (Option.bind (fn85 (x.fst.snd.fst, ())) fun v5 => (bif !v5.fst then some ((41, ())) else some ((0, ())))) else none))) else none))) else none))) else none))) else none))) else none) := by kernel_rfl
  rw [h]
  unfold law66
  simp only [decide_self, decide_true, Nat.zero_add, Bool.and_true, Bool.true_and, cond_true]
noncomputable def fn66 (x : (PaneT × Unit)) : Option ((Int × Unit)) := law66 x
theorem reads66 : Reads Try.prog 66 [PaneSh] [.int .i64] fn66 := (Reads.of_code mixed (fn := Try.f66) (c := c66) Try.func66 (by kernel_rfl) (by kernel_rfl) env66 200 (L66_fit) (by kernel_rfl)).to (eq66)
noncomputable def s66 : Summ Try.prog := reads66.summ
/- slices.Grow[[]chicane/api.Fx,chicane/api.Fx] -/
noncomputable def c99 : Code := (Try.f99.body.getD .skip)
noncomputable def env99 : Env Try.prog := []
noncomputable def s99 : Summ Try.prog := inlSumm allRw mixed 99 Try.f99 c99 Try.func99 (by kernel_rfl) (by kernel_rfl) env99 200 [] Loops.fit_nil
/- slices.Concat[[]chicane/api.Fx,chicane/api.Fx] -/
noncomputable def c86 : Code := (Try.f86.body.getD .skip)
noncomputable def env86 : Env Try.prog := [s99]
noncomputable def b86o1 : Code := ((kid ((subAt c86 [0, 1, 0, 1, 1, 1, 1]).getD .skip) 0).getD .skip)
noncomputable def kx86o1 : Exit → List Nat | .ret => [2] | .exit 2 => [6] | _ => []
noncomputable def b86o0 : Code := ((kid ((subAt c86 [0, 1, 0, 1, 1]).getD .skip) 0).getD .skip)
noncomputable def kx86o0 : Exit → List Nat | .ret => [2] | .exit 0 => [0, 3] | _ => []
noncomputable def Li86o1 (N0 N1 : Nat) : Loops Try.prog := []
noncomputable def ls86o1 (N0 N1 : Nat) : LSumm Try.prog := loopSumm mixed env86 200 (Li86o1 N0 N1) b86o1 (Loops.fit_nil) [6, 25, 26, 27] kx86o1 (Nat.succ N1)
noncomputable def ln86o1 {β : Type} (N0 N1 : Nat) (n : Nat) (t : List AV) (h : Heap) (K : Exit → List AV → Heap → Option β) : Option β := loopN Try.prog env86 (Sh.nes [.rows (.int .i64)]) 200 (Li86o1 N0 N1) b86o1 [6, 25, 26, 27] kx86o1 n t h K
noncomputable def Li86o0 (N0 N1 : Nat) : Loops Try.prog := []
noncomputable def ls86o0 (N0 N1 : Nat) : LSumm Try.prog := loopSumm mixed env86 200 (Li86o0 N0 N1) b86o0 (Loops.fit_nil) [0, 3, 9, 10, 11] kx86o0 (Nat.succ N0)
noncomputable def ln86o0 {β : Type} (N0 N1 : Nat) (n : Nat) (t : List AV) (h : Heap) (K : Exit → List AV → Heap → Option β) : Option β := loopN Try.prog env86 (Sh.nes [.rows (.int .i64)]) 200 (Li86o0 N0 N1) b86o0 [0, 3, 9, 10, 11] kx86o0 n t h K
noncomputable def L86 (N0 N1 : Nat) : Loops Try.prog := [([0, 1, 0, 1, 1], ls86o0 N0 N1), ([0, 1, 0, 1, 1, 1, 1], ls86o1 N0 N1)]
theorem L86_fit (N0 N1 : Nat) : (L86 N0 N1).fit c86 := Loops.fit_cons (by kernel_rfl) (Loops.fit_cons (by kernel_rfl) (Loops.fit_nil))
noncomputable def K86 : Exit → List AV → Heap → Option (List (Sh.T (.int .i64))) := fun e t h => outF (P := Try.prog) Try.f86 (Sh.nes [.rows (.int .i64)]) (.int .i64) e t h
noncomputable def rk86o0 (N0 N1 : Nat) : Exit → List AV → Heap → Option (List (Sh.T (.int .i64))) := (blkK 0 (seqK Try.prog env86 (Sh.nes [.rows (.int .i64)]) 197 (L86 N0 N1) [1, 1, 1] ((subAt c86 [1, 1, 1]).getD .skip) K86))
noncomputable def rk86o1 (N0 N1 : Nat) : Exit → List AV → Heap → Option (List (Sh.T (.int .i64))) := (blkK 2 (seqK Try.prog env86 (Sh.nes [.rows (.int .i64)]) 195 (L86 N0 N1) [1, 1, 1, 1, 1] ((subAt c86 [1, 1, 1, 1, 1]).getD .skip) K86))
noncomputable def t86o0 (N0 : Nat) (N1 : Nat) (x : Sh.Ts [(Sh.int IntKind.i64).rows]) (i8 : Int) (i9 : Int) : List AV := [AV.slc 0 0 (List.length x.fst) Cap.low, AV.any, AV.any, AV.val (Value.int IntKind.i64 i8), AV.any, AV.any, AV.any, AV.any, AV.any, AV.slc 0 0 (List.length x.fst) Cap.low, AV.val (Value.int IntKind.i64 (↑(List.length x.fst) : Int)), AV.val (Value.int IntKind.i64 i9), AV.any, AV.any, AV.any, AV.any, AV.any, AV.any, AV.any, AV.any, AV.any, AV.any, AV.any, AV.any, AV.any, AV.any, AV.any, AV.any, AV.any, AV.any, AV.any, AV.any, AV.any, AV.any, AV.any, AV.any]
noncomputable def h86o0 (N0 : Nat) (N1 : Nat) (x : Sh.Ts [(Sh.int IntKind.i64).rows]) (i8 : Int) (i9 : Int) : Heap := [Ent.live (Blk.mk (Cells.arrs (Sh.int IntKind.i64) x.fst) false none)]
noncomputable def tx86o0o0 (N0 : Nat) (N1 : Nat) (x : Sh.Ts [(Sh.int IntKind.i64).rows]) (w11 : Int) : List AV := [AV.slc 0 0 (List.length x.fst) Cap.low, AV.any, AV.any, AV.val (Value.int IntKind.i64 w11), AV.any, AV.any, AV.any, AV.any, AV.any, AV.any, AV.any, AV.any, AV.any, AV.any, AV.any, AV.any, AV.any, AV.any, AV.any, AV.any, AV.any, AV.any, AV.any, AV.any, AV.any, AV.any, AV.any, AV.any, AV.any, AV.any, AV.any, AV.any, AV.any, AV.any, AV.any, AV.any]
noncomputable def hx86o0o0 (N0 : Nat) (N1 : Nat) (x : Sh.Ts [(Sh.int IntKind.i64).rows]) (w11 : Int) : Heap := [Ent.live (Blk.mk (Cells.arrs (Sh.int IntKind.i64) x.fst) false none)]
noncomputable def law86o0 {β : Type} (N0 : Nat) (N1 : Nat) (x : ((List (List Int)) × Unit)) (k0 : Int → Option β) : Nat → Int → Int → Option β
  | 0, _, _ => none
  | n + 1, i8, i9 => (bif decide (i9 < (↑(List.length x.fst) : Int)) then (bif decide (0 ≤ i9) && decide (i9 < (↑(List.length x.fst) : Int)) then (Option.bind x.fst[i9.toNat]? fun v10 => (bif decide (IntKind.i64.wrap (i8 + (↑v10.length : Int)) < 0) then none else law86o0 N0 N1 x k0 n (IntKind.i64.wrap (i8 + (↑v10.length : Int))) (IntKind.i64.wrap (i9 + 1)))) else none) else k0 i8)
theorem leq86o0 {β : Type} (N0 : Nat) (N1 : Nat) (x : Sh.Ts [(Sh.int IntKind.i64).rows]) (K : Exit → List AV → Heap → Option β) : ∀ (n : Nat) (i8 : Int) (i9 : Int), ln86o0 N0 N1 n (t86o0 N0 N1 x i8 i9) (h86o0 N0 N1 x i8 i9) K = law86o0 N0 N1 x (fun w11 => K (Exit.exit 0) (tx86o0o0 N0 N1 x w11) (hx86o0o0 N0 N1 x w11)) n i8 i9
  | 0, _, _ => rfl
  | n + 1, i8, i9 => by
    have h : ln86o0 N0 N1 (n + 1) (t86o0 N0 N1 x i8 i9) (h86o0 N0 N1 x i8 i9) K = (bif decide (i9 < (↑(List.length x.fst) : Int)) then (bif decide (0 ≤ i9) && decide (i9 < (↑(List.length x.fst) : Int)) then (Option.bind (x.fst[0 + i9.toNat]?) fun v10 => (bif decide (IntKind.i64.wrap (i8 + (↑v10.length : Int)) < 0) then none else ln86o0 N0 N1 n (t86o0 N0 N1 x (IntKind.i64.wrap (i8 + (↑v10.length : Int))) (IntKind.i64.wrap (i9 + 1))) (h86o0 N0 N1 x (IntKind.i64.wrap (i8 + (↑v10.length : Int))) (IntKind.i64.wrap (i9 + 1))) K)) else none) else K (Exit.exit 0) (tx86o0o0 N0 N1 x i8) (hx86o0o0 N0 N1 x i8)) := by kernel_rfl
    rw [h]
    simp only [decide_self, decide_true, Nat.zero_add, Bool.and_true, Bool.true_and, cond_true, law86o0, leq86o0 N0 N1 x K n]
noncomputable def t86o1o1 (N0 : Nat) (N1 : Nat) (x : Sh.Ts [(Sh.int IntKind.i64).rows]) (i21 : Nat) (i22 : Int) (i23 : List (Sh.int IntKind.i64).T) : List AV := [AV.any, AV.any, AV.any, AV.any, AV.any, AV.any, AV.slc 1 0 i21 Cap.unk, AV.any, AV.any, AV.any, AV.any, AV.any, AV.any, AV.any, AV.any, AV.any, AV.any, AV.any, AV.any, AV.any, AV.any, AV.any, AV.any, AV.any, AV.any, AV.slc 0 0 (List.length x.fst) Cap.low, AV.val (Value.int IntKind.i64 (↑(List.length x.fst) : Int)), AV.val (Value.int IntKind.i64 i22), AV.any, AV.any, AV.any, AV.any, AV.any, AV.any, AV.any, AV.any]
noncomputable def h86o1o1 (N0 : Nat) (N1 : Nat) (x : Sh.Ts [(Sh.int IntKind.i64).rows]) (i21 : Nat) (i22 : Int) (i23 : List (Sh.int IntKind.i64).T) : Heap := [Ent.live (Blk.mk (Cells.arrs (Sh.int IntKind.i64) x.fst) false none), Ent.live (Blk.mk (Cells.arr (Sh.int IntKind.i64) i23) true (some 1))]
noncomputable def tx86o1o1o0 (N0 : Nat) (N1 : Nat) (x : Sh.Ts [(Sh.int IntKind.i64).rows]) (w25 : Nat) (w26 : List (Sh.int IntKind.i64).T) : List AV := [AV.any, AV.any, AV.any, AV.any, AV.any, AV.any, AV.slc 1 0 w25 Cap.unk, AV.any, AV.any, AV.any, AV.any, AV.any, AV.any, AV.any, AV.any, AV.any, AV.any, AV.any, AV.any, AV.any, AV.any, AV.any, AV.any, AV.any, AV.any, AV.any, AV.any, AV.any, AV.any, AV.any, AV.any, AV.any, AV.any, AV.any, AV.any, AV.any]
noncomputable def hx86o1o1o0 (N0 : Nat) (N1 : Nat) (x : Sh.Ts [(Sh.int IntKind.i64).rows]) (w25 : Nat) (w26 : List (Sh.int IntKind.i64).T) : Heap := [Ent.live (Blk.mk (Cells.arrs (Sh.int IntKind.i64) x.fst) false none), Ent.live (Blk.mk (Cells.arr (Sh.int IntKind.i64) w26) true (some 1))]
noncomputable def law86o1o1 {β : Type} (N0 : Nat) (N1 : Nat) (x : ((List (List Int)) × Unit)) (k0 : Nat → List Int → Option β) : Nat → Nat → Int → List Int → Option β
  | 0, _, _, _ => none
  | n + 1, i21, i22, i23 => (bif decide (i22 < (↑(List.length x.fst) : Int)) then (bif decide (0 ≤ i22) && decide (i22 < (↑(List.length x.fst) : Int)) then (Option.bind x.fst[i22.toNat]? fun v24 => (bif decide (i21 = i23.length) && (decide ((i21 + v24.length) * Try.prog.types[22].bytes ≤ 140737488355328) && decide (i21 + v24.length ≤ 9223372036854775807)) then law86o1o1 N0 N1 x k0 n (i21 + v24.length) (IntKind.i64.wrap (i22 + 1)) (i23.append v24) else none)) else none) else k0 i21 i23)
theorem leq86o1o1 {β : Type} (N0 : Nat) (N1 : Nat) (x : Sh.Ts [(Sh.int IntKind.i64).rows]) (K : Exit → List AV → Heap → Option β) : ∀ (n : Nat) (i21 : Nat) (i22 : Int) (i23 : List (Sh.int IntKind.i64).T), ln86o1 N0 N1 n (t86o1o1 N0 N1 x i21 i22 i23) (h86o1o1 N0 N1 x i21 i22 i23) K = law86o1o1 N0 N1 x (fun w25 w26 => K (Exit.exit 2) (tx86o1o1o0 N0 N1 x w25 w26) (hx86o1o1o0 N0 N1 x w25 w26)) n i21 i22 i23
  | 0, _, _, _ => rfl
  | n + 1, i21, i22, i23 => by
    have h : ln86o1 N0 N1 (n + 1) (t86o1o1 N0 N1 x i21 i22 i23) (h86o1o1 N0 N1 x i21 i22 i23) K = (bif decide (i22 < (↑(List.length x.fst) : Int)) then (bif decide (0 ≤ i22) && decide (i22 < (↑(List.length x.fst) : Int)) then (Option.bind (x.fst[0 + i22.toNat]?) fun v24 => (bif decide (i21 = i23.length) && (decide (v24.length = v24.length) && (decide ((i21 + v24.length) * Try.prog.types[22].bytes ≤ 140737488355328) && decide (i21 + v24.length ≤ 9223372036854775807))) then ln86o1 N0 N1 n (t86o1o1 N0 N1 x (i21 + v24.length) (IntKind.i64.wrap (i22 + 1)) (i23.append v24)) (h86o1o1 N0 N1 x (i21 + v24.length) (IntKind.i64.wrap (i22 + 1)) (i23.append v24)) K else none)) else none) else K (Exit.exit 2) (tx86o1o1o0 N0 N1 x i21 i23) (hx86o1o1o0 N0 N1 x i21 i23)) := by kernel_rfl
    rw [h]
    simp only [decide_self, decide_true, Nat.zero_add, Bool.and_true, Bool.true_and, cond_true, law86o1o1, leq86o1o1 N0 N1 x K n, leq86o0]
noncomputable def t86o1o2 (N0 : Nat) (N1 : Nat) (x : Sh.Ts [(Sh.int IntKind.i64).rows]) (i37 : Nat) (i38 : Int) (i39 : List (Sh.int IntKind.i64).T) : List AV := [AV.any, AV.any, AV.any, AV.any, AV.any, AV.any, AV.slc 1 0 i37 Cap.unk, AV.any, AV.any, AV.any, AV.any, AV.any, AV.any, AV.any, AV.any, AV.any, AV.any, AV.any, AV.any, AV.any, AV.any, AV.any, AV.any, AV.any, AV.any, AV.slc 0 0 (List.length x.fst) Cap.low, AV.val (Value.int IntKind.i64 (↑(List.length x.fst) : Int)), AV.val (Value.int IntKind.i64 i38), AV.any, AV.any, AV.any, AV.any, AV.any, AV.any, AV.any, AV.any]
noncomputable def h86o1o2 (N0 : Nat) (N1 : Nat) (x : Sh.Ts [(Sh.int IntKind.i64).rows]) (i37 : Nat) (i38 : Int) (i39 : List (Sh.int IntKind.i64).T) : Heap := [Ent.live (Blk.mk (Cells.arrs (Sh.int IntKind.i64) x.fst) false none), Ent.live (Blk.mk (Cells.arr (Sh.int IntKind.i64) i39) true (some 1))]
noncomputable def tx86o1o2o0 (N0 : Nat) (N1 : Nat) (x : Sh.Ts [(Sh.int IntKind.i64).rows]) (w41 : Nat) (w42 : List (Sh.int IntKind.i64).T) : List AV := [AV.any, AV.any, AV.any, AV.any, AV.any, AV.any, AV.slc 1 0 w41 Cap.unk, AV.any, AV.any, AV.any, AV.any, AV.any, AV.any, AV.any, AV.any, AV.any, AV.any, AV.any, AV.any, AV.any, AV.any, AV.any, AV.any, AV.any, AV.any, AV.any, AV.any, AV.any, AV.any, AV.any, AV.any, AV.any, AV.any, AV.any, AV.any, AV.any]
noncomputable def hx86o1o2o0 (N0 : Nat) (N1 : Nat) (x : Sh.Ts [(Sh.int IntKind.i64).rows]) (w41 : Nat) (w42 : List (Sh.int IntKind.i64).T) : Heap := [Ent.live (Blk.mk (Cells.arrs (Sh.int IntKind.i64) x.fst) false none), Ent.live (Blk.mk (Cells.arr (Sh.int IntKind.i64) w42) true (some 1))]
noncomputable def law86o1o2 {β : Type} (N0 : Nat) (N1 : Nat) (x : ((List (List Int)) × Unit)) (k0 : Nat → List Int → Option β) : Nat → Nat → Int → List Int → Option β
  | 0, _, _, _ => none
  | n + 1, i37, i38, i39 => (bif decide (i38 < (↑(List.length x.fst) : Int)) then (bif decide (0 ≤ i38) && decide (i38 < (↑(List.length x.fst) : Int)) then (Option.bind x.fst[i38.toNat]? fun v40 => (bif decide (i37 = i39.length) && (decide ((i37 + v40.length) * Try.prog.types[22].bytes ≤ 140737488355328) && decide (i37 + v40.length ≤ 9223372036854775807)) then law86o1o2 N0 N1 x k0 n (i37 + v40.length) (IntKind.i64.wrap (i38 + 1)) (i39.append v40) else none)) else none) else k0 i37 i39)
theorem leq86o1o2 {β : Type} (N0 : Nat) (N1 : Nat) (x : Sh.Ts [(Sh.int IntKind.i64).rows]) (K : Exit → List AV → Heap → Option β) : ∀ (n : Nat) (i37 : Nat) (i38 : Int) (i39 : List (Sh.int IntKind.i64).T), ln86o1 N0 N1 n (t86o1o2 N0 N1 x i37 i38 i39) (h86o1o2 N0 N1 x i37 i38 i39) K = law86o1o2 N0 N1 x (fun w41 w42 => K (Exit.exit 2) (tx86o1o2o0 N0 N1 x w41 w42) (hx86o1o2o0 N0 N1 x w41 w42)) n i37 i38 i39
  | 0, _, _, _ => rfl
  | n + 1, i37, i38, i39 => by
    have h : ln86o1 N0 N1 (n + 1) (t86o1o2 N0 N1 x i37 i38 i39) (h86o1o2 N0 N1 x i37 i38 i39) K = (bif decide (i38 < (↑(List.length x.fst) : Int)) then (bif decide (0 ≤ i38) && decide (i38 < (↑(List.length x.fst) : Int)) then (Option.bind (x.fst[0 + i38.toNat]?) fun v40 => (bif decide (i37 = i39.length) && (decide (v40.length = v40.length) && (decide ((i37 + v40.length) * Try.prog.types[22].bytes ≤ 140737488355328) && decide (i37 + v40.length ≤ 9223372036854775807))) then ln86o1 N0 N1 n (t86o1o2 N0 N1 x (i37 + v40.length) (IntKind.i64.wrap (i38 + 1)) (i39.append v40)) (h86o1o2 N0 N1 x (i37 + v40.length) (IntKind.i64.wrap (i38 + 1)) (i39.append v40)) K else none)) else none) else K (Exit.exit 2) (tx86o1o2o0 N0 N1 x i37 i39) (hx86o1o2o0 N0 N1 x i37 i39)) := by kernel_rfl
    rw [h]
    simp only [decide_self, decide_true, Nat.zero_add, Bool.and_true, Bool.true_and, cond_true, law86o1o2, leq86o1o2 N0 N1 x K n, leq86o0, leq86o1o1]
noncomputable def t86o1o3 (N0 : Nat) (N1 : Nat) (x : Sh.Ts [(Sh.int IntKind.i64).rows]) (i53 : Nat) (i54 : Int) (i55 : List (Sh.int IntKind.i64).T) : List AV := [AV.any, AV.any, AV.any, AV.any, AV.any, AV.any, AV.slc 1 0 i53 Cap.unk, AV.any, AV.any, AV.any, AV.any, AV.any, AV.any, AV.any, AV.any, AV.any, AV.any, AV.any, AV.any, AV.any, AV.any, AV.any, AV.any, AV.any, AV.any, AV.slc 0 0 (List.length x.fst) Cap.low, AV.val (Value.int IntKind.i64 (↑(List.length x.fst) : Int)), AV.val (Value.int IntKind.i64 i54), AV.any, AV.any, AV.any, AV.any, AV.any, AV.any, AV.any, AV.any]
noncomputable def h86o1o3 (N0 : Nat) (N1 : Nat) (x : Sh.Ts [(Sh.int IntKind.i64).rows]) (i53 : Nat) (i54 : Int) (i55 : List (Sh.int IntKind.i64).T) : Heap := [Ent.live (Blk.mk (Cells.arrs (Sh.int IntKind.i64) x.fst) false none), Ent.live (Blk.mk (Cells.arr (Sh.int IntKind.i64) i55) true (some 1))]
noncomputable def tx86o1o3o0 (N0 : Nat) (N1 : Nat) (x : Sh.Ts [(Sh.int IntKind.i64).rows]) (w57 : Nat) (w58 : List (Sh.int IntKind.i64).T) : List AV := [AV.any, AV.any, AV.any, AV.any, AV.any, AV.any, AV.slc 1 0 w57 Cap.unk, AV.any, AV.any, AV.any, AV.any, AV.any, AV.any, AV.any, AV.any, AV.any, AV.any, AV.any, AV.any, AV.any, AV.any, AV.any, AV.any, AV.any, AV.any, AV.any, AV.any, AV.any, AV.any, AV.any, AV.any, AV.any, AV.any, AV.any, AV.any, AV.any]
noncomputable def hx86o1o3o0 (N0 : Nat) (N1 : Nat) (x : Sh.Ts [(Sh.int IntKind.i64).rows]) (w57 : Nat) (w58 : List (Sh.int IntKind.i64).T) : Heap := [Ent.live (Blk.mk (Cells.arrs (Sh.int IntKind.i64) x.fst) false none), Ent.live (Blk.mk (Cells.arr (Sh.int IntKind.i64) w58) true (some 1))]
noncomputable def law86o1o3 {β : Type} (N0 : Nat) (N1 : Nat) (x : ((List (List Int)) × Unit)) (k0 : Nat → List Int → Option β) : Nat → Nat → Int → List Int → Option β
  | 0, _, _, _ => none
  | n + 1, i53, i54, i55 => (bif decide (i54 < (↑(List.length x.fst) : Int)) then (bif decide (0 ≤ i54) && decide (i54 < (↑(List.length x.fst) : Int)) then (Option.bind x.fst[i54.toNat]? fun v56 => (bif decide (i53 = i55.length) && (decide ((i53 + v56.length) * Try.prog.types[22].bytes ≤ 140737488355328) && decide (i53 + v56.length ≤ 9223372036854775807)) then law86o1o3 N0 N1 x k0 n (i53 + v56.length) (IntKind.i64.wrap (i54 + 1)) (i55.append v56) else none)) else none) else k0 i53 i55)
theorem leq86o1o3 {β : Type} (N0 : Nat) (N1 : Nat) (x : Sh.Ts [(Sh.int IntKind.i64).rows]) (K : Exit → List AV → Heap → Option β) : ∀ (n : Nat) (i53 : Nat) (i54 : Int) (i55 : List (Sh.int IntKind.i64).T), ln86o1 N0 N1 n (t86o1o3 N0 N1 x i53 i54 i55) (h86o1o3 N0 N1 x i53 i54 i55) K = law86o1o3 N0 N1 x (fun w57 w58 => K (Exit.exit 2) (tx86o1o3o0 N0 N1 x w57 w58) (hx86o1o3o0 N0 N1 x w57 w58)) n i53 i54 i55
  | 0, _, _, _ => rfl
  | n + 1, i53, i54, i55 => by
    have h : ln86o1 N0 N1 (n + 1) (t86o1o3 N0 N1 x i53 i54 i55) (h86o1o3 N0 N1 x i53 i54 i55) K = (bif decide (i54 < (↑(List.length x.fst) : Int)) then (bif decide (0 ≤ i54) && decide (i54 < (↑(List.length x.fst) : Int)) then (Option.bind (x.fst[0 + i54.toNat]?) fun v56 => (bif decide (i53 = i55.length) && (decide (v56.length = v56.length) && (decide ((i53 + v56.length) * Try.prog.types[22].bytes ≤ 140737488355328) && decide (i53 + v56.length ≤ 9223372036854775807))) then ln86o1 N0 N1 n (t86o1o3 N0 N1 x (i53 + v56.length) (IntKind.i64.wrap (i54 + 1)) (i55.append v56)) (h86o1o3 N0 N1 x (i53 + v56.length) (IntKind.i64.wrap (i54 + 1)) (i55.append v56)) K else none)) else none) else K (Exit.exit 2) (tx86o1o3o0 N0 N1 x i53 i55) (hx86o1o3o0 N0 N1 x i53 i55)) := by kernel_rfl
    rw [h]
    simp only [decide_self, decide_true, Nat.zero_add, Bool.and_true, Bool.true_and, cond_true, law86o1o3, leq86o1o3 N0 N1 x K n, leq86o0, leq86o1o1, leq86o1o2]
theorem rest86o1o1o0 (N0 : Nat) (N1 : Nat) (x : Sh.Ts [(Sh.int IntKind.i64).rows]) (w27 : Nat) (w28 : List (Sh.int IntKind.i64).T) : rk86o1 N0 N1 (Exit.exit 2) (tx86o1o1o0 N0 N1 x w27 w28) (hx86o1o1o0 N0 N1 x w27 w28) = (bif decide (w27 = w28.length) then some w28 else none) := by kernel_rfl
theorem rest86o1o2o0 (N0 : Nat) (N1 : Nat) (x : Sh.Ts [(Sh.int IntKind.i64).rows]) (w43 : Nat) (w44 : List (Sh.int IntKind.i64).T) : rk86o1 N0 N1 (Exit.exit 2) (tx86o1o2o0 N0 N1 x w43 w44) (hx86o1o2o0 N0 N1 x w43 w44) = (bif decide (w43 = w44.length) then some w44 else none) := by kernel_rfl
theorem rest86o0o0 (N0 : Nat) (N1 : Nat) (x : Sh.Ts [(Sh.int IntKind.i64).rows]) (w12 : Int) : rk86o0 N0 N1 (Exit.exit 0) (tx86o0o0 N0 N1 x w12) (hx86o0o0 N0 N1 x w12) = (bif decide (w12 < 0) then none else (bif decide (IntKind.i64.wrap (w12 - IntKind.i64.wrap ((↑0 : Int) - (↑0 : Int))) > 0) then (bif decide (0 < IntKind.i64.wrap (w12 - IntKind.i64.wrap ((↑0 : Int) - (↑0 : Int)))) && (decide ((IntKind.i64.wrap (w12 - IntKind.i64.wrap ((↑0 : Int) - (↑0 : Int)))).toNat * Try.prog.types[22].bytes ≤ 140737488355328) && decide ((IntKind.i64.wrap (w12 - IntKind.i64.wrap ((↑0 : Int) - (↑0 : Int)))).toNat ≤ 9223372036854775807)) then (bif decide (0 < (↑(List.length x.fst) : Int)) then (bif decide (0 ≤ 0) && decide (0 < (↑(List.length x.fst) : Int)) then (Option.bind (x.fst[Int.toNat 0]?) fun v13 => (bif decide (((↑0 : Int).toNat + v13.length) * Try.prog.types[22].bytes ≤ 140737488355328) && decide ((↑0 : Int).toNat + v13.length ≤ 9223372036854775807) then (law86o1o1 N0 N1 x (fun w27 w28 => (bif decide (w27 = w28.length) then some w28 else none)) N1 ((↑0 : Int).toNat + v13.length) (IntKind.i64.wrap (0 + 1)) ([].append v13)) else none)) else none) else none) else none) else (bif decide (0 < (↑(List.length x.fst) : Int)) then (bif decide (0 ≤ 0) && decide (0 < (↑(List.length x.fst) : Int)) then (Option.bind (x.fst[Int.toNat 0]?) fun v29 => (bif (decide (0 = 0) || decide (0 < v29.length)) && (decide ((0 + v29.length) * Try.prog.types[22].bytes ≤ 140737488355328) && decide (0 + v29.length ≤ 9223372036854775807)) then (law86o1o2 N0 N1 x (fun w43 w44 => (bif decide (w43 = w44.length) then some w44 else none)) N1 (0 + v29.length) (IntKind.i64.wrap (0 + 1)) ([].append v29)) else none)) else none) else some []))) := by
  have h : rk86o0 N0 N1 (Exit.exit 0) (tx86o0o0 N0 N1 x w12) (hx86o0o0 N0 N1 x w12) = (bif decide (w12 < 0) then none else (bif decide (IntKind.i64.wrap (w12 - IntKind.i64.wrap ((↑0 : Int) - (↑0 : Int))) > 0) then (bif decide (0 < IntKind.i64.wrap (w12 - IntKind.i64.wrap ((↑0 : Int) - (↑0 : Int)))) && (decide ((IntKind.i64.wrap (w12 - IntKind.i64.wrap ((↑0 : Int) - (↑0 : Int)))).toNat * Try.prog.types[22].bytes ≤ 140737488355328) && decide ((IntKind.i64.wrap (w12 - IntKind.i64.wrap ((↑0 : Int) - (↑0 : Int)))).toNat ≤ 9223372036854775807)) then (bif decide (0 < (↑(List.length x.fst) : Int)) then (bif decide (0 ≤ 0) && decide (0 < (↑(List.length x.fst) : Int)) then (Option.bind (x.fst[0 + Int.toNat 0]?) fun v13 => (bif decide (v13.length = v13.length) && (decide (((↑0 : Int).toNat + v13.length) * Try.prog.types[22].bytes ≤ 140737488355328) && decide ((↑0 : Int).toNat + v13.length ≤ 9223372036854775807)) then (ln86o1 N0 N1 N1 (t86o1o1 N0 N1 x ((↑0 : Int).toNat + v13.length) (IntKind.i64.wrap (0 + 1)) ([].append v13)) (h86o1o1 N0 N1 x ((↑0 : Int).toNat + v13.length) (IntKind.i64.wrap (0 + 1)) ([].append v13)) (rk86o1 N0 N1)) else none)) else none) else none) else none) else (bif decide (0 < (↑(List.length x.fst) : Int)) then (bif decide (0 ≤ 0) && decide (0 < (↑(List.length x.fst) : Int)) then (Option.bind (x.fst[0 + Int.toNat 0]?) fun v29 => (bif decide (v29.length = v29.length) && ((decide (0 = 0) || decide (0 < v29.length)) && (decide ((0 + v29.length) * Try.prog.types[22].bytes ≤ 140737488355328) && decide (0 + v29.length ≤ 9223372036854775807))) then (ln86o1 N0 N1 N1 (t86o1o2 N0 N1 x (0 + v29.length) (IntKind.i64.wrap (0 + 1)) ([].append v29)) (h86o1o2 N0 N1 x (0 + v29.length) (IntKind.i64.wrap (0 + 1)) ([].append v29)) (rk86o1 N0 N1)) else none)) else none) else some []))) := by kernel_rfl
  rw [h]
  simp only [decide_self, decide_true, Nat.zero_add, Bool.and_true, Bool.true_and, cond_true, leq86o0, leq86o1o1, leq86o1o2, leq86o1o3, rest86o1o1o0, rest86o1o2o0]
theorem rest86o1o3o0 (N0 : Nat) (N1 : Nat) (x : Sh.Ts [(Sh.int IntKind.i64).rows]) (w59 : Nat) (w60 : List (Sh.int IntKind.i64).T) : rk86o1 N0 N1 (Exit.exit 2) (tx86o1o3o0 N0 N1 x w59 w60) (hx86o1o3o0 N0 N1 x w59 w60) = (bif decide (w59 = w60.length) then some w60 else none) := by kernel_rfl
noncomputable def law86 (N0 : Nat) (N1 : Nat) (x : ((List (List Int)) × Unit)) : Option (List Int) := (bif decide (0 < (↑(List.length x.fst) : Int)) then (bif decide (0 ≤ 0) && decide (0 < (↑(List.length x.fst) : Int)) then (Option.bind (x.fst[Int.toNat 0]?) fun v0 => (bif decide (IntKind.i64.wrap (0 + (↑v0.length : Int)) < 0) then none else (law86o0 N0 N1 x (fun w12 => (bif decide (w12 < 0) then none else (bif decide (IntKind.i64.wrap (w12 - IntKind.i64.wrap ((↑0 : Int) - (↑0 : Int))) > 0) then (bif decide (0 < IntKind.i64.wrap (w12 - IntKind.i64.wrap ((↑0 : Int) - (↑0 : Int)))) && (decide ((IntKind.i64.wrap (w12 - IntKind.i64.wrap ((↑0 : Int) - (↑0 : Int)))).toNat * Try.prog.types[22].bytes ≤ 140737488355328) && decide ((IntKind.i64.wrap (w12 - IntKind.i64.wrap ((↑0 : Int) - (↑0 : Int)))).toNat ≤ 9223372036854775807)) then (bif decide (0 < (↑(List.length x.fst) : Int)) then (bif decide (0 ≤ 0) && decide (0 < (↑(List.length x.fst) : Int)) then (Option.bind (x.fst[Int.toNat 0]?) fun v13 => (bif decide (((↑0 : Int).toNat + v13.length) * Try.prog.types[22].bytes ≤ 140737488355328) && decide ((↑0 : Int).toNat + v13.length ≤ 9223372036854775807) then (law86o1o1 N0 N1 x (fun w27 w28 => (bif decide (w27 = w28.length) then some w28 else none)) N1 ((↑0 : Int).toNat + v13.length) (IntKind.i64.wrap (0 + 1)) ([].append v13)) else none)) else none) else none) else none) else (bif decide (0 < (↑(List.length x.fst) : Int)) then (bif decide (0 ≤ 0) && decide (0 < (↑(List.length x.fst) : Int)) then (Option.bind (x.fst[Int.toNat 0]?) fun v29 => (bif (decide (0 = 0) || decide (0 < v29.length)) && (decide ((0 + v29.length) * Try.prog.types[22].bytes ≤ 140737488355328) && decide (0 + v29.length ≤ 9223372036854775807)) then (law86o1o2 N0 N1 x (fun w43 w44 => (bif decide (w43 = w44.length) then some w44 else none)) N1 (0 + v29.length) (IntKind.i64.wrap (0 + 1)) ([].append v29)) else none)) else none) else some [])))) N0 (IntKind.i64.wrap (0 + (↑v0.length : Int))) (IntKind.i64.wrap (0 + 1))))) else none) else (bif decide (0 < (↑(List.length x.fst) : Int)) then (bif decide (0 ≤ 0) && decide (0 < (↑(List.length x.fst) : Int)) then (Option.bind (x.fst[Int.toNat 0]?) fun v45 => (bif (decide (0 = 0) || decide (0 < v45.length)) && (decide ((0 + v45.length) * Try.prog.types[22].bytes ≤ 140737488355328) && decide (0 + v45.length ≤ 9223372036854775807)) then (law86o1o3 N0 N1 x (fun w59 w60 => (bif decide (w59 = w60.length) then some w60 else none)) N1 (0 + v45.length) (IntKind.i64.wrap (0 + 1)) ([].append v45)) else none)) else none) else some []))
theorem eq86 (N0 : Nat) (N1 : Nat) (x : Sh.Ts [(Sh.int IntKind.i64).rows]) : codeLawF Try.prog env86 200 (L86 N0 N1) Try.f86 c86 [.rows (.int .i64)] (.int .i64) x = law86 N0 N1 x := by
  have h : codeLawF Try.prog env86 200 (L86 N0 N1) Try.f86 c86 [.rows (.int .i64)] (.int .i64) x = (bif decide (0 < (↑(List.length x.fst) : Int)) then (bif decide (0 ≤ 0) && decide (0 < (↑(List.length x.fst) : Int)) then (Option.bind (x.fst[0 + Int.toNat 0]?) fun v0 => (bif decide (IntKind.i64.wrap (0 + (↑v0.length : Int)) < 0) then none else (ln86o0 N0 N1 N0 (t86o0 N0 N1 x (IntKind.i64.wrap (0 + (↑v0.length : Int))) (IntKind.i64.wrap (0 + 1))) (h86o0 N0 N1 x (IntKind.i64.wrap (0 + (↑v0.length : Int))) (IntKind.i64.wrap (0 + 1))) (rk86o0 N0 N1)))) else none) else (bif decide (0 < (↑(List.length x.fst) : Int)) then (bif decide (0 ≤ 0) && decide (0 < (↑(List.length x.fst) : Int)) then (Option.bind (x.fst[0 + Int.toNat 0]?) fun v45 => (bif decide (v45.length = v45.length) && ((decide (0 = 0) || decide (0 < v45.length)) && (decide ((0 + v45.length) * Try.prog.types[22].bytes ≤ 140737488355328) && decide (0 + v45.length ≤ 9223372036854775807))) then (ln86o1 N0 N1 N1 (t86o1o3 N0 N1 x (0 + v45.length) (IntKind.i64.wrap (0 + 1)) ([].append v45)) (h86o1o3 N0 N1 x (0 + v45.length) (IntKind.i64.wrap (0 + 1)) ([].append v45)) (rk86o1 N0 N1)) else none)) else none) else some [])) := by kernel_rfl
  rw [h]
  unfold law86
  simp only [decide_self, decide_true, Nat.zero_add, Bool.and_true, Bool.true_and, cond_true, leq86o0, leq86o1o1, leq86o1o2, leq86o1o3, rest86o1o1o0, rest86o1o2o0, rest86o0o0, rest86o1o3o0]
noncomputable def fn86 (x : ((List (List Int)) × Unit)) : Option (List (Int)) := law86 (10 ^ 30) (10 ^ 30) x
theorem reads86 : ReadsF Try.prog 86 [.rows (.int .i64)] (.int .i64) fn86 := (ReadsF.of_code mixed (fn := Try.f86) (c := c86) Try.func86 (by kernel_rfl) (by kernel_rfl) env86 200 (L86_fit _ _)).to (eq86 _ _)
noncomputable def s86 : Summ Try.prog := reads86.summ
/- slices.Min[[]chicane/api.Fx,chicane/api.Fx] -/
noncomputable def c87 : Code := (Try.f87.body.getD .skip)
noncomputable def env87 : Env Try.prog := []
noncomputable def b87o0 : Code := ((kid ((subAt c87 [0, 1, 0, 1, 1, 1]).getD .skip) 0).getD .skip)
noncomputable def kx87o0 : Exit → List Nat | .ret => [2] | .exit 0 => [3] | _ => []
noncomputable def Li87o0 (N0 : Nat) : Loops Try.prog := []
noncomputable def ls87o0 (N0 : Nat) : LSumm Try.prog := loopSumm mixed env87 200 (Li87o0 N0) b87o0 (Loops.fit_nil) [0, 3, 4] kx87o0 (N0)
noncomputable def ln87o0 {β : Type} (N0 : Nat) (n : Nat) (t : List AV) (h : Heap) (K : Exit → List AV → Heap → Option β) : Option β := loopN Try.prog env87 (Sh.nes [.sl (.int .i64)]) 200 (Li87o0 N0) b87o0 [0, 3, 4] kx87o0 n t h K
noncomputable def L87 (N0 : Nat) : Loops Try.prog := [([0, 1, 0, 1, 1, 1], ls87o0 N0)]
theorem L87_fit (N0 : Nat) : (L87 N0).fit c87 := Loops.fit_cons (by kernel_rfl) (Loops.fit_nil)
noncomputable def K87 : Exit → List AV → Heap → Option (Sh.Ts [.int .i64]) := fun e t h => outK (P := Try.prog) Try.f87 [.int .i64] e t h
noncomputable def rk87o0 (N0 : Nat) : Exit → List AV → Heap → Option (Sh.Ts [.int .i64]) := (blkK 0 (seqK Try.prog env87 (Sh.nes [.sl (.int .i64)]) 196 (L87 N0) [1, 1, 1, 1] ((subAt c87 [1, 1, 1, 1]).getD .skip) K87))
noncomputable def t87o0 (N0 : Nat) (x : Sh.Ts [(Sh.int IntKind.i64).sl]) (i6 : (Sh.int IntKind.i64).T) (i7 : Int) : List AV := [AV.slc 0 0 (List.length x.fst) Cap.low, AV.any, AV.any, AV.val (Value.int IntKind.i64 i6), AV.val (Value.int IntKind.i64 i7), AV.any, AV.any, AV.any, AV.any, AV.any, AV.any, AV.any, AV.any, AV.any, AV.any, AV.any, AV.any, AV.any, AV.any, AV.any, AV.any, AV.any, AV.any, AV.any, AV.any]
noncomputable def h87o0 (N0 : Nat) (x : Sh.Ts [(Sh.int IntKind.i64).sl]) (i6 : (Sh.int IntKind.i64).T) (i7 : Int) : Heap := [Ent.live (Blk.mk (Cells.arr (Sh.int IntKind.i64) x.fst) false none)]
noncomputable def tx87o0o0 (N0 : Nat) (x : Sh.Ts [(Sh.int IntKind.i64).sl]) (w9 : (Sh.int IntKind.i64).T) : List AV := [AV.any, AV.any, AV.any, AV.val (Value.int IntKind.i64 w9), AV.any, AV.any, AV.any, AV.any, AV.any, AV.any, AV.any, AV.any, AV.any, AV.any, AV.any, AV.any, AV.any, AV.any, AV.any, AV.any, AV.any, AV.any, AV.any, AV.any, AV.any]
noncomputable def hx87o0o0 (N0 : Nat) (x : Sh.Ts [(Sh.int IntKind.i64).sl]) (w9 : (Sh.int IntKind.i64).T) : Heap := [Ent.live (Blk.mk (Cells.arr (Sh.int IntKind.i64) x.fst) false none)]
noncomputable def law87o0 {β : Type} (N0 : Nat) (x : ((List Int) × Unit)) (k0 : Int → Option β) : Nat → Int → Int → Option β
  | 0, _, _ => none
  | n + 1, i6, i7 => (bif decide (i7 < (↑(List.length x.fst) : Int)) then (bif decide (0 ≤ i7) && decide (i7 < (↑(List.length x.fst) : Int)) then (Option.bind x.fst[i7.toNat]? fun v8 => law87o0 N0 x k0 n (if v8 < i6 then v8 else i6) (IntKind.i64.wrap (i7 + 1))) else none) else k0 i6)
theorem leq87o0 {β : Type} (N0 : Nat) (x : Sh.Ts [(Sh.int IntKind.i64).sl]) (K : Exit → List AV → Heap → Option β) : ∀ (n : Nat) (i6 : (Sh.int IntKind.i64).T) (i7 : Int), ln87o0 N0 n (t87o0 N0 x i6 i7) (h87o0 N0 x i6 i7) K = law87o0 N0 x (fun w9 => K (Exit.exit 0) (tx87o0o0 N0 x w9) (hx87o0o0 N0 x w9)) n i6 i7
  | 0, _, _ => rfl
  | n + 1, i6, i7 => by
    have h : ln87o0 N0 (n + 1) (t87o0 N0 x i6 i7) (h87o0 N0 x i6 i7) K = (bif decide (i7 < (↑(List.length x.fst) : Int)) then (bif decide (0 ≤ i7) && decide (i7 < (↑(List.length x.fst) : Int)) then (Option.bind (x.fst[0 + i7.toNat]?) fun v8 => ln87o0 N0 n (t87o0 N0 x (if v8 < i6 then v8 else i6) (IntKind.i64.wrap (i7 + 1))) (h87o0 N0 x (if v8 < i6 then v8 else i6) (IntKind.i64.wrap (i7 + 1))) K) else none) else K (Exit.exit 0) (tx87o0o0 N0 x i6) (hx87o0o0 N0 x i6)) := by kernel_rfl
    rw [h]
    simp only [decide_self, decide_true, Nat.zero_add, Bool.and_true, Bool.true_and, cond_true, law87o0, leq87o0 N0 x K n]
theorem rest87o0o0 (N0 : Nat) (x : Sh.Ts [(Sh.int IntKind.i64).sl]) (w10 : (Sh.int IntKind.i64).T) : rk87o0 N0 (Exit.exit 0) (tx87o0o0 N0 x w10) (hx87o0o0 N0 x w10) = some ((w10, ())) := by kernel_rfl
noncomputable def law87 (N0 : Nat) (x : ((List Int) × Unit)) : Option ((Int × Unit)) := (bif decide ((↑(List.length x.fst) : Int) < 1) then none else (bif decide (0 ≤ 0) && decide (0 < (↑(List.length x.fst) : Int)) then (Option.bind (x.fst[Int.toNat 0]?) fun v0 => (law87o0 N0 x (fun w10 => some ((w10, ()))) N0 v0 1)) else none))
theorem eq87 (N0 : Nat) (x : Sh.Ts [(Sh.int IntKind.i64).sl]) : codeLaw Try.prog env87 200 (L87 N0) Try.f87 c87 [.sl (.int .i64)] [.int .i64] x = law87 N0 x := by
  have h : codeLaw Try.prog env87 200 (L87 N0) Try.f87 c87 [.sl (.int .i64)] [.int .i64] x = (bif decide ((↑(List.length x.fst) : Int) < 1) then none else (bif decide (0 ≤ 0) && decide (0 < (↑(List.length x.fst) : Int)) then (Option.bind (x.fst[0 + Int.toNat 0]?) fun v0 => (ln87o0 N0 N0 (t87o0 N0 x v0 1) (h87o0 N0 x v0 1) (rk87o0 N0))) else none)) := by kernel_rfl
  rw [h]
  unfold law87
  simp only [decide_self, decide_true, Nat.zero_add, Bool.and_true, Bool.true_and, cond_true, leq87o0, rest87o0o0]
noncomputable def fn87 (x : ((List Int) × Unit)) : Option ((Int × Unit)) := law87 (10 ^ 30) x
theorem reads87 : Reads Try.prog 87 [.sl (.int .i64)] [.int .i64] fn87 := (Reads.of_code mixed (fn := Try.f87) (c := c87) Try.func87 (by kernel_rfl) (by kernel_rfl) env87 200 (L87_fit _) (by kernel_rfl)).to (eq87 _)
noncomputable def s87 : Summ Try.prog := reads87.summ
/- slices.Max[[]chicane/api.Fx,chicane/api.Fx] -/
noncomputable def c88 : Code := (Try.f88.body.getD .skip)
noncomputable def env88 : Env Try.prog := []
noncomputable def b88o0 : Code := ((kid ((subAt c88 [0, 1, 0, 1, 1, 1]).getD .skip) 0).getD .skip)
noncomputable def kx88o0 : Exit → List Nat | .ret => [2] | .exit 0 => [3] | _ => []
noncomputable def Li88o0 (N0 : Nat) : Loops Try.prog := []
noncomputable def ls88o0 (N0 : Nat) : LSumm Try.prog := loopSumm mixed env88 200 (Li88o0 N0) b88o0 (Loops.fit_nil) [0, 3, 4] kx88o0 (N0)
noncomputable def ln88o0 {β : Type} (N0 : Nat) (n : Nat) (t : List AV) (h : Heap) (K : Exit → List AV → Heap → Option β) : Option β := loopN Try.prog env88 (Sh.nes [.sl (.int .i64)]) 200 (Li88o0 N0) b88o0 [0, 3, 4] kx88o0 n t h K
noncomputable def L88 (N0 : Nat) : Loops Try.prog := [([0, 1, 0, 1, 1, 1], ls88o0 N0)]
theorem L88_fit (N0 : Nat) : (L88 N0).fit c88 := Loops.fit_cons (by kernel_rfl) (Loops.fit_nil)
noncomputable def K88 : Exit → List AV → Heap → Option (Sh.Ts [.int .i64]) := fun e t h => outK (P := Try.prog) Try.f88 [.int .i64] e t h
noncomputable def rk88o0 (N0 : Nat) : Exit → List AV → Heap → Option (Sh.Ts [.int .i64]) := (blkK 0 (seqK Try.prog env88 (Sh.nes [.sl (.int .i64)]) 196 (L88 N0) [1, 1, 1, 1] ((subAt c88 [1, 1, 1, 1]).getD .skip) K88))
noncomputable def t88o0 (N0 : Nat) (x : Sh.Ts [(Sh.int IntKind.i64).sl]) (i6 : (Sh.int IntKind.i64).T) (i7 : Int) : List AV := [AV.slc 0 0 (List.length x.fst) Cap.low, AV.any, AV.any, AV.val (Value.int IntKind.i64 i6), AV.val (Value.int IntKind.i64 i7), AV.any, AV.any, AV.any, AV.any, AV.any, AV.any, AV.any, AV.any, AV.any, AV.any, AV.any, AV.any, AV.any, AV.any, AV.any, AV.any, AV.any, AV.any, AV.any, AV.any]
noncomputable def h88o0 (N0 : Nat) (x : Sh.Ts [(Sh.int IntKind.i64).sl]) (i6 : (Sh.int IntKind.i64).T) (i7 : Int) : Heap := [Ent.live (Blk.mk (Cells.arr (Sh.int IntKind.i64) x.fst) false none)]
noncomputable def tx88o0o0 (N0 : Nat) (x : Sh.Ts [(Sh.int IntKind.i64).sl]) (w9 : (Sh.int IntKind.i64).T) : List AV := [AV.any, AV.any, AV.any, AV.val (Value.int IntKind.i64 w9), AV.any, AV.any, AV.any, AV.any, AV.any, AV.any, AV.any, AV.any, AV.any, AV.any, AV.any, AV.any, AV.any, AV.any, AV.any, AV.any, AV.any, AV.any, AV.any, AV.any, AV.any]
noncomputable def hx88o0o0 (N0 : Nat) (x : Sh.Ts [(Sh.int IntKind.i64).sl]) (w9 : (Sh.int IntKind.i64).T) : Heap := [Ent.live (Blk.mk (Cells.arr (Sh.int IntKind.i64) x.fst) false none)]
noncomputable def law88o0 {β : Type} (N0 : Nat) (x : ((List Int) × Unit)) (k0 : Int → Option β) : Nat → Int → Int → Option β
  | 0, _, _ => none
  | n + 1, i6, i7 => (bif decide (i7 < (↑(List.length x.fst) : Int)) then (bif decide (0 ≤ i7) && decide (i7 < (↑(List.length x.fst) : Int)) then (Option.bind x.fst[i7.toNat]? fun v8 => law88o0 N0 x k0 n (if v8 > i6 then v8 else i6) (IntKind.i64.wrap (i7 + 1))) else none) else k0 i6)
theorem leq88o0 {β : Type} (N0 : Nat) (x : Sh.Ts [(Sh.int IntKind.i64).sl]) (K : Exit → List AV → Heap → Option β) : ∀ (n : Nat) (i6 : (Sh.int IntKind.i64).T) (i7 : Int), ln88o0 N0 n (t88o0 N0 x i6 i7) (h88o0 N0 x i6 i7) K = law88o0 N0 x (fun w9 => K (Exit.exit 0) (tx88o0o0 N0 x w9) (hx88o0o0 N0 x w9)) n i6 i7
  | 0, _, _ => rfl
  | n + 1, i6, i7 => by
    have h : ln88o0 N0 (n + 1) (t88o0 N0 x i6 i7) (h88o0 N0 x i6 i7) K = (bif decide (i7 < (↑(List.length x.fst) : Int)) then (bif decide (0 ≤ i7) && decide (i7 < (↑(List.length x.fst) : Int)) then (Option.bind (x.fst[0 + i7.toNat]?) fun v8 => ln88o0 N0 n (t88o0 N0 x (if v8 > i6 then v8 else i6) (IntKind.i64.wrap (i7 + 1))) (h88o0 N0 x (if v8 > i6 then v8 else i6) (IntKind.i64.wrap (i7 + 1))) K) else none) else K (Exit.exit 0) (tx88o0o0 N0 x i6) (hx88o0o0 N0 x i6)) := by kernel_rfl
    rw [h]
    simp only [decide_self, decide_true, Nat.zero_add, Bool.and_true, Bool.true_and, cond_true, law88o0, leq88o0 N0 x K n]
theorem rest88o0o0 (N0 : Nat) (x : Sh.Ts [(Sh.int IntKind.i64).sl]) (w10 : (Sh.int IntKind.i64).T) : rk88o0 N0 (Exit.exit 0) (tx88o0o0 N0 x w10) (hx88o0o0 N0 x w10) = some ((w10, ())) := by kernel_rfl
noncomputable def law88 (N0 : Nat) (x : ((List Int) × Unit)) : Option ((Int × Unit)) := (bif decide ((↑(List.length x.fst) : Int) < 1) then none else (bif decide (0 ≤ 0) && decide (0 < (↑(List.length x.fst) : Int)) then (Option.bind (x.fst[Int.toNat 0]?) fun v0 => (law88o0 N0 x (fun w10 => some ((w10, ()))) N0 v0 1)) else none))
theorem eq88 (N0 : Nat) (x : Sh.Ts [(Sh.int IntKind.i64).sl]) : codeLaw Try.prog env88 200 (L88 N0) Try.f88 c88 [.sl (.int .i64)] [.int .i64] x = law88 N0 x := by
  have h : codeLaw Try.prog env88 200 (L88 N0) Try.f88 c88 [.sl (.int .i64)] [.int .i64] x = (bif decide ((↑(List.length x.fst) : Int) < 1) then none else (bif decide (0 ≤ 0) && decide (0 < (↑(List.length x.fst) : Int)) then (Option.bind (x.fst[0 + Int.toNat 0]?) fun v0 => (ln88o0 N0 N0 (t88o0 N0 x v0 1) (h88o0 N0 x v0 1) (rk88o0 N0))) else none)) := by kernel_rfl
  rw [h]
  unfold law88
  simp only [decide_self, decide_true, Nat.zero_add, Bool.and_true, Bool.true_and, cond_true, leq88o0, rest88o0o0]
noncomputable def fn88 (x : ((List Int) × Unit)) : Option ((Int × Unit)) := law88 (10 ^ 30) x
theorem reads88 : Reads Try.prog 88 [.sl (.int .i64)] [.int .i64] fn88 := (Reads.of_code mixed (fn := Try.f88) (c := c88) Try.func88 (by kernel_rfl) (by kernel_rfl) env88 200 (L88_fit _) (by kernel_rfl)).to (eq88 _)
noncomputable def s88 : Summ Try.prog := reads88.summ
/- chicane/pane.Bounds -/
noncomputable def c67 : Code := (Try.f67.body.getD .skip)
noncomputable def env67 : Env Try.prog := [s66, s86, s87, s88]
noncomputable def L67 : Loops Try.prog := []
theorem L67_fit : (L67).fit c67 := Loops.fit_nil
noncomputable def law67 (x : (PaneT × Unit)) : Option ((Int × Int × Unit)) := (Option.bind (fn66 x) fun v0 => (bif v0.fst != 0 then some ((0, 0, ())) else (Option.bind (fn86 x.fst.snd.snd) fun v1 => (Option.bind (fn87 (v1, ())) fun v2 => (Option.bind (fn88 (v1, ())) fun v3 => some ((v2.fst, v3.fst, ())))))))
theorem eq67 (x : Sh.Ts [PaneSh]) : codeLaw Try.prog env67 200 (L67) Try.f67 c67 [PaneSh] [.int .i64, .int .i64] x = law67 x := by
  have h : codeLaw Try.prog env67 200 (L67) Try.f67 c67 [PaneSh] [.int .i64, .int .i64] x = (bif decide (List.length x.fst.fst = List.length x.fst.fst) && (decide (List.length x.fst.snd.fst = List.length x.fst.snd.fst) && (decide (List.length x.fst.snd.snd.fst = List.length x.fst.snd.snd.fst) && true)) && true then (Option.bind (fn66 x) fun v0 => (bif v0.fst != 0 then some ((0, 0, ())) else (bif decide (List.length x.fst.snd.snd.fst = List.length x.fst.snd.snd.fst) && true then (Option.bind (fn86 x.fst.snd.snd) fun v1 => (bif decide (v1.length = v1.length) && true then (Option.bind (fn87 (v1, ())) fun v2 => (bif decide (v1.length = v1.length) && true then (Option.bind (fn88 (v1, ())) fun v3 => some ((v2.fst, v3.fst, ()))) else none)) else none)) else none))) else none) := by kernel_rfl
  rw [h]
  unfold law67
  simp only [decide_self, decide_true, Nat.zero_add, Bool.and_true, Bool.true_and, cond_true]
noncomputable def fn67 (x : (PaneT × Unit)) : Option ((Int × Int × Unit)) := law67 x
theorem reads67 : Reads Try.prog 67 [PaneSh] [.int .i64, .int .i64] fn67 := (Reads.of_code mixed (fn := Try.f67) (c := c67) Try.func67 (by kernel_rfl) (by kernel_rfl) env67 200 (L67_fit) (by kernel_rfl)).to (eq67)
noncomputable def s67 : Summ Try.prog := reads67.summ
/- chicane/car.tyre -/
noncomputable def c46 : Code := (Try.f46.body.getD .skip)
noncomputable def env46 : Env Try.prog := [s66, s67, s43]
noncomputable def L46 : Loops Try.prog := []
theorem L46_fit : (L46).fit c46 := Loops.fit_nil
noncomputable def law46 (x : (PaneT × Unit)) : Option ((Int × Unit)) := (Option.bind (fn66 x) fun v0 => (bif v0.fst != 0 then some ((v0.fst, ())) else (Option.bind (fn67 x) fun v1 => (bif decide (0 ≤ 0) && decide (0 < (↑(List.length x.fst.fst) : Int)) then (Option.bind (x.fst.fst[Int.toNat 0]?) fun v2 => (bif decide (0 ≤ 0) && decide (0 < (↑(List.length x.fst.snd.fst) : Int)) then (Option.bind (x.fst.snd.fst[Int.toNat 0]?) fun v3 => (Option.bind (fn43 ([(if v1.fst < if v3 < v2 then v3 else v2 then v1.fst else if v3 < v2 then v3 else v2, 0, 18014398509481984, ()), (v1.snd.fst, 0, 17179869184, ())], ())) fun v4 => some ((v4.fst, ())))) else none)) else none))))
theorem eq46 (x : Sh.Ts [PaneSh]) : codeLaw Try.prog env46 200 (L46) Try.f46 c46 [PaneSh] [.int .i64] x = law46 x := by
  have h : codeLaw Try.prog env46 200 (L46) Try.f46 c46 [PaneSh] [.int .i64] x = (bif decide (List.length x.fst.fst = List.length x.fst.fst) && (decide (List.length x.fst.snd.fst = List.length x.fst.snd.fst) && (decide (List.length x.fst.snd.snd.fst = List.length x.fst.snd.snd.fst) && true)) && true then (Option.bind (fn66 x) fun v0 => (bif v0.fst != 0 then some ((v0.fst, ())) else (bif decide (List.length x.fst.fst = List.length x.fst.fst) && (decide (List.length x.fst.snd.fst = List.length x.fst.snd.fst) && (decide (List.length x.fst.snd.snd.fst = List.length x.fst.snd.snd.fst) && true)) && true then (Option.bind (fn67 x) fun v1 => (bif decide (0 ≤ 0) && decide (0 < (↑(List.length x.fst.fst) : Int)) then (Option.bind (x.fst.fst[0 + Int.toNat 0]?) fun v2 => (bif decide (0 ≤ 0) && decide (0 < (↑(List.length x.fst.snd.fst) : Int)) then (Option.bind (x.fst.snd.fst[0 + Int.toNat 0]?) fun v3 => (Option.bind (fn43 ([(if v1.fst < if v3 < v2 then v3 else v2 then v1.fst else if v3 < v2 then v3 else v2, 0, 18014398509481984, ()), (v1.snd.fst, 0, 17179869184, ())], ())) fun v4 => some ((v4.fst, ())))) else none)) else none)) else none))) else none) := by kernel_rfl
  rw [h]
  unfold law46
  simp only [decide_self, decide_true, Nat.zero_add, Bool.and_true, Bool.true_and, cond_true]
noncomputable def fn46 (x : (PaneT × Unit)) : Option ((Int × Unit)) := law46 x
theorem reads46 : Reads Try.prog 46 [PaneSh] [.int .i64] fn46 := (Reads.of_code mixed (fn := Try.f46) (c := c46) Try.func46 (by kernel_rfl) (by kernel_rfl) env46 200 (L46_fit) (by kernel_rfl)).to (eq46)
noncomputable def s46 : Summ Try.prog := reads46.summ
/- chicane/car.above -/
noncomputable def c69 : Code := (Try.f69.body.getD .skip)
noncomputable def env69 : Env Try.prog := []
noncomputable def L69 : Loops Try.prog := []
theorem L69_fit : (L69).fit c69 := Loops.fit_nil
noncomputable def law69 (x : (Int × Int × Unit)) : Option ((Int × Unit)) := (bif decide (x.fst ≤ x.snd.fst) then some ((41, ())) else some ((0, ())))
theorem eq69 (x : Sh.Ts [Sh.int IntKind.i64, Sh.int IntKind.i64]) : codeLaw Try.prog env69 200 (L69) Try.f69 c69 [.int .i64, .int .i64] [.int .i64] x = law69 x := by kernel_rfl
noncomputable def fn69 (x : (Int × Int × Unit)) : Option ((Int × Unit)) := law69 x
theorem reads69 : Reads Try.prog 69 [.int .i64, .int .i64] [.int .i64] fn69 := (Reads.of_code mixed (fn := Try.f69) (c := c69) Try.func69 (by kernel_rfl) (by kernel_rfl) env69 200 (L69_fit) (by kernel_rfl)).to (eq69)
noncomputable def s69 : Summ Try.prog := reads69.summ
/- chicane/car.first -/
noncomputable def c68 : Code := (Try.f68.body.getD .skip)
noncomputable def env68 : Env Try.prog := []
noncomputable def b68o0 : Code := ((kid ((subAt c68 [0, 1, 0, 1]).getD .skip) 0).getD .skip)
noncomputable def kx68o0 : Exit → List Nat | .ret => [2] | _ => []
noncomputable def Li68o0 (N0 : Nat) : Loops Try.prog := []
noncomputable def ls68o0 (N0 : Nat) : LSumm Try.prog := loopSumm mixed env68 200 (Li68o0 N0) b68o0 (Loops.fit_nil) [5, 6, 7] kx68o0 (N0)
noncomputable def ln68o0 {β : Type} (N0 : Nat) (n : Nat) (t : List AV) (h : Heap) (K : Exit → List AV → Heap → Option β) : Option β := loopN Try.prog env68 (Sh.nes [.sl (.int .i64)]) 200 (Li68o0 N0) b68o0 [5, 6, 7] kx68o0 n t h K
noncomputable def L68 (N0 : Nat) : Loops Try.prog := [([0, 1, 0, 1], ls68o0 N0)]
theorem L68_fit (N0 : Nat) : (L68 N0).fit c68 := Loops.fit_cons (by kernel_rfl) (Loops.fit_nil)
noncomputable def K68 : Exit → List AV → Heap → Option (Sh.Ts [.int .i64]) := fun e t h => outK (P := Try.prog) Try.f68 [.int .i64] e t h
noncomputable def rk68o0 (N0 : Nat) : Exit → List AV → Heap → Option (Sh.Ts [.int .i64]) := (blkK 0 (seqK Try.prog env68 (Sh.nes [.sl (.int .i64)]) 198 (L68 N0) [1, 1] ((subAt c68 [1, 1]).getD .skip) K68))
noncomputable def t68o0 (N0 : Nat) (x : Sh.Ts [(Sh.int IntKind.i64).sl]) (i5 : Int) : List AV := [AV.any, AV.any, AV.any, AV.any, AV.any, AV.slc 0 0 (List.length x.fst) Cap.low, AV.val (Value.int IntKind.i64 (↑(List.length x.fst) : Int)), AV.val (Value.int IntKind.i64 i5), AV.any, AV.any, AV.any, AV.any, AV.any, AV.any, AV.any]
noncomputable def h68o0 (N0 : Nat) (x : Sh.Ts [(Sh.int IntKind.i64).sl]) (i5 : Int) : Heap := [Ent.live (Blk.mk (Cells.arr (Sh.int IntKind.i64) x.fst) false none)]
noncomputable def tx68o0o0 (N0 : Nat) (x : Sh.Ts [(Sh.int IntKind.i64).sl]) (w7 : (Sh.int IntKind.i64).T) : List AV := [AV.any, AV.any, AV.val (Value.int IntKind.i64 w7), AV.any, AV.any, AV.any, AV.any, AV.any, AV.any, AV.any, AV.any, AV.any, AV.any, AV.any, AV.any]
noncomputable def hx68o0o0 (N0 : Nat) (x : Sh.Ts [(Sh.int IntKind.i64).sl]) (w7 : (Sh.int IntKind.i64).T) : Heap := [Ent.live (Blk.mk (Cells.arr (Sh.int IntKind.i64) x.fst) false none)]
noncomputable def tx68o0o1 (N0 : Nat) (x : Sh.Ts [(Sh.int IntKind.i64).sl]) : List AV := [AV.any, AV.any, AV.any, AV.any, AV.any, AV.any, AV.any, AV.any, AV.any, AV.any, AV.any, AV.any, AV.any, AV.any, AV.any]
noncomputable def hx68o0o1 (N0 : Nat) (x : Sh.Ts [(Sh.int IntKind.i64).sl]) : Heap := [Ent.live (Blk.mk (Cells.arr (Sh.int IntKind.i64) x.fst) false none)]
noncomputable def law68o0 {β : Type} (N0 : Nat) (x : ((List Int) × Unit)) (k0 : Int → Option β) (k1 : Option β) : Nat → Int → Option β
  | 0, _ => none
  | n + 1, i5 => (bif decide (i5 < (↑(List.length x.fst) : Int)) then (bif decide (0 ≤ i5) && decide (i5 < (↑(List.length x.fst) : Int)) then (Option.bind x.fst[i5.toNat]? fun v6 => (bif v6 != 0 then k0 v6 else law68o0 N0 x k0 k1 n (IntKind.i64.wrap (i5 + 1)))) else none) else k1)
theorem leq68o0 {β : Type} (N0 : Nat) (x : Sh.Ts [(Sh.int IntKind.i64).sl]) (K : Exit → List AV → Heap → Option β) : ∀ (n : Nat) (i5 : Int), ln68o0 N0 n (t68o0 N0 x i5) (h68o0 N0 x i5) K = law68o0 N0 x (fun w7 => K (Exit.ret) (tx68o0o0 N0 x w7) (hx68o0o0 N0 x w7)) (K (Exit.exit 0) (tx68o0o1 N0 x) (hx68o0o1 N0 x)) n i5
  | 0, _ => rfl
  | n + 1, i5 => by
    have h : ln68o0 N0 (n + 1) (t68o0 N0 x i5) (h68o0 N0 x i5) K = (bif decide (i5 < (↑(List.length x.fst) : Int)) then (bif decide (0 ≤ i5) && decide (i5 < (↑(List.length x.fst) : Int)) then (Option.bind (x.fst[0 + i5.toNat]?) fun v6 => (bif v6 != 0 then K (Exit.ret) (tx68o0o0 N0 x v6) (hx68o0o0 N0 x v6) else ln68o0 N0 n (t68o0 N0 x (IntKind.i64.wrap (i5 + 1))) (h68o0 N0 x (IntKind.i64.wrap (i5 + 1))) K)) else none) else K (Exit.exit 0) (tx68o0o1 N0 x) (hx68o0o1 N0 x)) := by kernel_rfl
    rw [h]
    simp only [decide_self, decide_true, Nat.zero_add, Bool.and_true, Bool.true_and, cond_true, law68o0, leq68o0 N0 x K n]
theorem rest68o0o0 (N0 : Nat) (x : Sh.Ts [(Sh.int IntKind.i64).sl]) (w8 : (Sh.int IntKind.i64).T) : rk68o0 N0 (Exit.ret) (tx68o0o0 N0 x w8) (hx68o0o0 N0 x w8) = some ((w8, ())) := by kernel_rfl
theorem rest68o0o1 (N0 : Nat) (x : Sh.Ts [(Sh.int IntKind.i64).sl]) : rk68o0 N0 (Exit.exit 0) (tx68o0o1 N0 x) (hx68o0o1 N0 x) = some ((0, ())) := by kernel_rfl
noncomputable def law68 (N0 : Nat) (x : ((List Int) × Unit)) : Option ((Int × Unit)) := (law68o0 N0 x (fun w8 => some ((w8, ()))) (some ((0, ()))) N0 0)
theorem eq68 (N0 : Nat) (x : Sh.Ts [(Sh.int IntKind.i64).sl]) : codeLaw Try.prog env68 200 (L68 N0) Try.f68 c68 [.sl (.int .i64)] [.int .i64] x = law68 N0 x := by
  have h : codeLaw Try.prog env68 200 (L68 N0) Try.f68 c68 [.sl (.int .i64)] [.int .i64] x = (ln68o0 N0 N0 (t68o0 N0 x 0) (h68o0 N0 x 0) (rk68o0 N0)) := by kernel_rfl
  rw [h]
  unfold law68
  simp only [decide_self, decide_true, Nat.zero_add, Bool.and_true, Bool.true_and, cond_true, leq68o0, rest68o0o0, rest68o0o1]
noncomputable def fn68 (x : ((List Int) × Unit)) : Option ((Int × Unit)) := law68 (10 ^ 30) x
theorem reads68 : Reads Try.prog 68 [.sl (.int .i64)] [.int .i64] fn68 := (Reads.of_code mixed (fn := Try.f68) (c := c68) Try.func68 (by kernel_rfl) (by kernel_rfl) env68 200 (L68_fit _) (by kernel_rfl)).to (eq68 _)
noncomputable def s68 : Summ Try.prog := reads68.summ
/- chicane/car.engine -/
noncomputable def c48 : Code := (Try.f48.body.getD .skip)
noncomputable def env48 : Env Try.prog := [s43, s69, s68]
noncomputable def L48 : Loops Try.prog := []
theorem L48_fit : (L48).fit c48 := Loops.fit_nil
noncomputable def law48 (x : (CarT × Unit)) : Option ((Int × Unit)) := (Option.bind (fn43 ([(x.fst.snd.snd.snd.snd.snd.snd.snd.snd.fst, 0, 17179869184, ()), (x.fst.snd.snd.snd.snd.snd.snd.snd.snd.snd.fst, 67108864, 68719476736, ()), (x.fst.snd.snd.snd.snd.snd.snd.snd.snd.snd.snd.fst, 137438953472, 2199023255552, ()), (x.fst.snd.snd.snd.snd.snd.snd.snd.snd.snd.snd.snd.fst, 274877906944, 8796093022208, ()), (x.fst.snd.snd.snd.snd.snd.snd.snd.snd.snd.snd.snd.snd.fst, 0, 4294967296, ()), (x.fst.snd.snd.snd.snd.snd.snd.snd.snd.snd.snd.snd.snd.snd.fst, 4294967296, 1099511627776, ()), (x.fst.snd.snd.snd.snd.snd.snd.snd.snd.snd.snd.snd.snd.snd.snd.fst, 0, 17592186044416, ())], ())) fun v0 => (Option.bind (fn69 (x.fst.snd.snd.snd.snd.snd.snd.snd.snd.snd.snd.snd.fst, x.fst.snd.snd.snd.snd.snd.snd.snd.snd.snd.snd.fst, ())) fun v1 => (Option.bind (fn68 ([v0.fst, v1.fst], ())) fun v2 => some ((v2.fst, ())))))
theorem eq48 (x : Sh.Ts [CarSh]) : codeLaw Try.prog env48 200 (L48) Try.f48 c48 [CarSh] [.int .i64] x = law48 x := by kernel_rfl
noncomputable def fn48 (x : (CarT × Unit)) : Option ((Int × Unit)) := law48 x
theorem reads48 : Reads Try.prog 48 [CarSh] [.int .i64] fn48 := (Reads.of_code mixed (fn := Try.f48) (c := c48) Try.func48 (by kernel_rfl) (by kernel_rfl) env48 200 (L48_fit) (by kernel_rfl)).to (eq48)
noncomputable def s48 : Summ Try.prog := reads48.summ
/- chicane/car.gears -/
noncomputable def c49 : Code := (Try.f49.body.getD .skip)
noncomputable def env49 : Env Try.prog := [s43]
noncomputable def b49o0 : Code := ((kid ((subAt c49 [0, 1, 0, 1, 1, 1]).getD .skip) 0).getD .skip)
noncomputable def kx49o0 : Exit → List Nat | .ret => [2] | .exit 0 => [3] | _ => []
noncomputable def Li49o0 (N0 : Nat) : Loops Try.prog := []
noncomputable def ls49o0 (N0 : Nat) : LSumm Try.prog := loopSumm mixed env49 200 (Li49o0 N0) b49o0 (Loops.fit_nil) [3, 24, 25, 26] kx49o0 (Nat.succ N0)
noncomputable def ln49o0 {β : Type} (N0 : Nat) (n : Nat) (t : List AV) (h : Heap) (K : Exit → List AV → Heap → Option β) : Option β := loopN Try.prog env49 (Sh.nes [CarSh]) 200 (Li49o0 N0) b49o0 [3, 24, 25, 26] kx49o0 n t h K
noncomputable def L49 (N0 : Nat) : Loops Try.prog := [([0, 1, 0, 1, 1, 1], ls49o0 N0)]
theorem L49_fit (N0 : Nat) : (L49 N0).fit c49 := Loops.fit_cons (by kernel_rfl) (Loops.fit_nil)
noncomputable def K49 : Exit → List AV → Heap → Option (Sh.Ts [.int .i64]) := fun e t h => outK (P := Try.prog) Try.f49 [.int .i64] e t h
noncomputable def rk49o0 (N0 : Nat) : Exit → List AV → Heap → Option (Sh.Ts [.int .i64]) := (blkK 0 (seqK Try.prog env49 (Sh.nes [CarSh]) 196 (L49 N0) [1, 1, 1, 1] ((subAt c49 [1, 1, 1, 1]).getD .skip) K49))
noncomputable def t49o0 (N0 : Nat) (x : Sh.Ts [CarSh]) (i14 : Nat) (i15 : Int) (i16 : List (Sh.st [Sh.int IntKind.i64, Sh.int IntKind.i64, Sh.int IntKind.i64]).T) : List AV := [AV.any, AV.any, AV.any, AV.slc 7 0 i14 Cap.unk, AV.any, AV.any, AV.any, AV.any, AV.any, AV.any, AV.any, AV.any, AV.any, AV.any, AV.any, AV.any, AV.any, AV.any, AV.any, AV.any, AV.any, AV.any, AV.any, AV.any, AV.slc 6 0 (List.length x.fst.snd.snd.snd.snd.snd.snd.snd.snd.snd.snd.snd.snd.snd.snd.snd.snd.fst) Cap.low, AV.val (Value.int IntKind.i64 (↑(List.length x.fst.snd.snd.snd.snd.snd.snd.snd.snd.snd.snd.snd.snd.snd.snd.snd.snd.fst) : Int)), AV.val (Value.int IntKind.i64 i15), AV.any, AV.any, AV.any, AV.any, AV.any, AV.any, AV.any, AV.any, AV.any, AV.any, AV.any]
noncomputable def h49o0 (N0 : Nat) (x : Sh.Ts [CarSh]) (i14 : Nat) (i15 : Int) (i16 : List (Sh.st [Sh.int IntKind.i64, Sh.int IntKind.i64, Sh.int IntKind.i64]).T) : Heap := [Ent.live (Blk.mk (Cells.arr (Sh.st [Sh.int IntKind.i64, Sh.int IntKind.i64]) x.fst.snd.snd.snd.snd.fst) false none), Ent.live (Blk.mk (Cells.arr (Sh.int IntKind.i64) x.fst.snd.snd.snd.snd.snd.fst.fst) false none), Ent.live (Blk.mk (Cells.arr (Sh.int IntKind.i64) x.fst.snd.snd.snd.snd.snd.fst.snd.fst) false none), Ent.live (Blk.mk (Cells.arrs (Sh.int IntKind.i64) x.fst.snd.snd.snd.snd.snd.fst.snd.snd.fst) false none), Ent.live (Blk.mk (Cells.arr (Sh.st [Sh.int IntKind.i64, Sh.int IntKind.i64]) x.fst.snd.snd.snd.snd.snd.snd.fst) false none), Ent.live (Blk.mk (Cells.arr (Sh.st [Sh.int IntKind.i64, Sh.int IntKind.i64]) x.fst.snd.snd.snd.snd.snd.snd.snd.fst) false none), Ent.live (Blk.mk (Cells.arr (Sh.int IntKind.i64) x.fst.snd.snd.snd.snd.snd.snd.snd.snd.snd.snd.snd.snd.snd.snd.snd.snd.fst) false none), Ent.live (Blk.mk (Cells.arr (Sh.st [Sh.int IntKind.i64, Sh.int IntKind.i64, Sh.int IntKind.i64]) i16) true (some 3))]
noncomputable def tx49o0o0 (N0 : Nat) (x : Sh.Ts [CarSh]) (w18 : Nat) (w19 : List (Sh.st [Sh.int IntKind.i64, Sh.int IntKind.i64, Sh.int IntKind.i64]).T) : List AV := [AV.any, AV.any, AV.any, AV.slc 7 0 w18 Cap.unk, AV.any, AV.any, AV.any, AV.any, AV.any, AV.any, AV.any, AV.any, AV.any, AV.any, AV.any, AV.any, AV.any, AV.any, AV.any, AV.any, AV.any, AV.any, AV.any, AV.any, AV.any, AV.any, AV.any, AV.any, AV.any, AV.any, AV.any, AV.any, AV.any, AV.any, AV.any, AV.any, AV.any, AV.any]
noncomputable def hx49o0o0 (N0 : Nat) (x : Sh.Ts [CarSh]) (w18 : Nat) (w19 : List (Sh.st [Sh.int IntKind.i64, Sh.int IntKind.i64, Sh.int IntKind.i64]).T) : Heap := [Ent.live (Blk.mk (Cells.arr (Sh.st [Sh.int IntKind.i64, Sh.int IntKind.i64]) x.fst.snd.snd.snd.snd.fst) false none), Ent.live (Blk.mk (Cells.arr (Sh.int IntKind.i64) x.fst.snd.snd.snd.snd.snd.fst.fst) false none), Ent.live (Blk.mk (Cells.arr (Sh.int IntKind.i64) x.fst.snd.snd.snd.snd.snd.fst.snd.fst) false none), Ent.live (Blk.mk (Cells.arrs (Sh.int IntKind.i64) x.fst.snd.snd.snd.snd.snd.fst.snd.snd.fst) false none), Ent.live (Blk.mk (Cells.arr (Sh.st [Sh.int IntKind.i64, Sh.int IntKind.i64]) x.fst.snd.snd.snd.snd.snd.snd.fst) false none), Ent.live (Blk.mk (Cells.arr (Sh.st [Sh.int IntKind.i64, Sh.int IntKind.i64]) x.fst.snd.snd.snd.snd.snd.snd.snd.fst) false none), Ent.live (Blk.mk (Cells.arr (Sh.int IntKind.i64) x.fst.snd.snd.snd.snd.snd.snd.snd.snd.snd.snd.snd.snd.snd.snd.snd.snd.fst) false none), Ent.live (Blk.mk (Cells.arr (Sh.st [Sh.int IntKind.i64, Sh.int IntKind.i64, Sh.int IntKind.i64]) w19) true (some 3))]
noncomputable def law49o0 {β : Type} (N0 : Nat) (x : (CarT × Unit)) (k0 : Nat → List (Int × Int × Int × Unit) → Option β) : Nat → Nat → Int → List (Int × Int × Int × Unit) → Option β
  | 0, _, _, _ => none
  | n + 1, i14, i15, i16 => (bif decide (i15 < (↑(List.length x.fst.snd.snd.snd.snd.snd.snd.snd.snd.snd.snd.snd.snd.snd.snd.snd.snd.fst) : Int)) then (bif decide (0 ≤ i15) && decide (i15 < (↑(List.length x.fst.snd.snd.snd.snd.snd.snd.snd.snd.snd.snd.snd.snd.snd.snd.snd.snd.fst) : Int)) then (Option.bind x.fst.snd.snd.snd.snd.snd.snd.snd.snd.snd.snd.snd.snd.snd.snd.snd.snd.fst[i15.toNat]? fun v17 => (bif decide (i14 = i16.length) && (decide ((i14 + 1) * Try.prog.types[86].bytes ≤ 140737488355328) && decide (i14 + 1 ≤ 9223372036854775807)) then law49o0 N0 x k0 n (i14 + 1) (IntKind.i64.wrap (i15 + 1)) (i16.append [(v17, 1073741824, 137438953472, ())]) else none)) else none) else k0 i14 i16)
theorem leq49o0 {β : Type} (N0 : Nat) (x : Sh.Ts [CarSh]) (K : Exit → List AV → Heap → Option β) : ∀ (n : Nat) (i14 : Nat) (i15 : Int) (i16 : List (Sh.st [Sh.int IntKind.i64, Sh.int IntKind.i64, Sh.int IntKind.i64]).T), ln49o0 N0 n (t49o0 N0 x i14 i15 i16) (h49o0 N0 x i14 i15 i16) K = law49o0 N0 x (fun w18 w19 => K (Exit.exit 0) (tx49o0o0 N0 x w18 w19) (hx49o0o0 N0 x w18 w19)) n i14 i15 i16
  | 0, _, _, _ => rfl
  | n + 1, i14, i15, i16 => by
    have h : ln49o0 N0 (n + 1) (t49o0 N0 x i14 i15 i16) (h49o0 N0 x i14 i15 i16) K = (bif decide (i15 < (↑(List.length x.fst.snd.snd.snd.snd.snd.snd.snd.snd.snd.snd.snd.snd.snd.snd.snd.snd.fst) : Int)) then (bif decide (0 ≤ i15) && decide (i15 < (↑(List.length x.fst.snd.snd.snd.snd.snd.snd.snd.snd.snd.snd.snd.snd.snd.snd.snd.snd.fst) : Int)) then (Option.bind (x.fst.snd.snd.snd.snd.snd.snd.snd.snd.snd.snd.snd.snd.snd.snd.snd.snd.fst[0 + i15.toNat]?) fun v17 => (bif decide (i14 = i16.length) && (decide ((i14 + 1) * Try.prog.types[86].bytes ≤ 140737488355328) && decide (i14 + 1 ≤ 9223372036854775807)) then ln49o0 N0 n (t49o0 N0 x (i14 + 1) (IntKind.i64.wrap (i15 + 1)) (i16.append [(v17, 1073741824, 137438953472, ())])) (h49o0 N0 x (i14 + 1) (IntKind.i64.wrap (i15 + 1)) (i16.append [(v17, 1073741824, 137438953472, ())])) K else none)) else none) else K (Exit.exit 0) (tx49o0o0 N0 x i14 i16) (hx49o0o0 N0 x i14 i16)) := by kernel_rfl
    rw [h]
    simp only [decide_self, decide_true, Nat.zero_add, Bool.and_true, Bool.true_and, cond_true, law49o0, leq49o0 N0 x K n]
theorem rest49o0o0 (N0 : Nat) (x : Sh.Ts [CarSh]) (w20 : Nat) (w21 : List (Sh.st [Sh.int IntKind.i64, Sh.int IntKind.i64, Sh.int IntKind.i64]).T) : rk49o0 N0 (Exit.exit 0) (tx49o0o0 N0 x w20 w21) (hx49o0o0 N0 x w20 w21) = (bif decide (w20 = w21.length) then (Option.bind (fn43 (w21, ())) fun v22 => some ((v22.fst, ()))) else none) := by
  have h : rk49o0 N0 (Exit.exit 0) (tx49o0o0 N0 x w20 w21) (hx49o0o0 N0 x w20 w21) = (bif decide (w20 = w21.length) && true then (Option.bind (fn43 (w21, ())) fun v22 => some ((v22.fst, ()))) else none) := by kernel_rfl
  rw [h]
  simp only [decide_self, decide_true, Nat.zero_add, Bool.and_true, Bool.true_and, cond_true, leq49o0]
noncomputable def law49 (N0 : Nat) (x : (CarT × Unit)) : Option ((Int × Unit)) := (bif decide ((↑(List.length x.fst.snd.snd.snd.snd.snd.snd.snd.snd.snd.snd.snd.snd.snd.snd.snd.snd.fst) : Int) < 1) then some ((42, ())) else (bif decide ((↑(List.length x.fst.snd.snd.snd.snd.snd.snd.snd.snd.snd.snd.snd.snd.snd.snd.snd.snd.fst) : Int) > 8) then some ((42, ())) else (bif decide (0 < (↑(List.length x.fst.snd.snd.snd.snd.snd.snd.snd.snd.snd.snd.snd.snd.snd.snd.snd.snd.fst) : Int)) then (bif decide (0 ≤ 0) && decide (0 < (↑(List.length x.fst.snd.snd.snd.snd.snd.snd.snd.snd.snd.snd.snd.snd.snd.snd.snd.snd.fst) : Int)) then (Option.bind (x.fst.snd.snd.snd.snd.snd.snd.snd.snd.snd.snd.snd.snd.snd.snd.snd.snd.fst[Int.toNat 0]?) fun v0 => (law49o0 N0 x (fun w20 w21 => (bif decide (w20 = w21.length) then (Option.bind (fn43 (w21, ())) fun v22 => some ((v22.fst, ()))) else none)) N0 3 (IntKind.i64.wrap (0 + 1)) ([(x.fst.snd.snd.snd.snd.snd.snd.snd.snd.snd.snd.snd.snd.snd.snd.snd.fst, 1073741824, 137438953472, ()), (x.fst.snd.snd.snd.snd.snd.snd.snd.snd.snd.snd.snd.snd.snd.snd.snd.snd.snd.fst, 2147483648, 68719476736, ()), (v0, 1073741824, 137438953472, ())]))) else none) else (Option.bind (fn43 ([(x.fst.snd.snd.snd.snd.snd.snd.snd.snd.snd.snd.snd.snd.snd.snd.snd.fst, 1073741824, 137438953472, ()), (x.fst.snd.snd.snd.snd.snd.snd.snd.snd.snd.snd.snd.snd.snd.snd.snd.snd.snd.fst, 2147483648, 68719476736, ())], ())) fun v23 => some ((v23.fst, ()))))))
theorem eq49 (N0 : Nat) (x : Sh.Ts [CarSh]) : codeLaw Try.prog env49 200 (L49 N0) Try.f49 c49 [CarSh] [.int .i64] x = law49 N0 x := by
  have h : codeLaw Try.prog env49 200 (L49 N0) Try.f49 c49 [CarSh] [.int .i64] x = (bif decide ((↑(List.length x.fst.snd.snd.snd.snd.snd.snd.snd.snd.snd.snd.snd.snd.snd.snd.snd.snd.fst) : Int) < 1) then some ((42, ())) else (bif decide ((↑(List.length x.fst.snd.snd.snd.snd.snd.snd.snd.snd.snd.snd.snd.snd.snd.snd.snd.snd.fst) : Int) > 8) then some ((42, ())) else (bif decide (0 < (↑(List.length x.fst.snd.snd.snd.snd.snd.snd.snd.snd.snd.snd.snd.snd.snd.snd.snd.snd.fst) : Int)) then (bif decide (0 ≤ 0) && decide (0 < (↑(List.length x.fst.snd.snd.snd.snd.snd.snd.snd.snd.snd.snd.snd.snd.snd.snd.snd.snd.fst) : Int)) then (Option.bind (x.fst.snd.snd.snd.snd.snd.snd.snd.snd.snd.snd.snd.snd.snd.snd.snd.snd.fst[0 + Int.toNat 0]?) fun v0 => (ln49o0 N0 N0 (t49o0 N0 x 3 (IntKind.i64.wrap (0 + 1)) ([(x.fst.snd.snd.snd.snd.snd.snd.snd.snd.snd.snd.snd.snd.snd.snd.snd.fst, 1073741824, 137438953472, ()), (x.fst.snd.snd.snd.snd.snd.snd.snd.snd.snd.snd.snd.snd.snd.snd.snd.snd.snd.fst, 2147483648, 68719476736, ()), (v0, 1073741824, 137438953472, ())])) (h49o0 N0 x 3 (IntKind.i64.wrap (0 + 1)) ([(x.fst.snd.snd.snd.snd.snd.snd.snd.snd.snd.snd.snd.snd.snd.snd.snd.fst, 1073741824, 137438953472, ()), (x.fst.snd.snd.snd.snd.snd.snd.snd.snd.snd.snd.snd.snd.snd.snd.snd.snd.snd.fst, 2147483648, 68719476736, ()), (v0, 1073741824, 137438953472, ())])) (rk49o0 N0))) else none) else (Option.bind (fn43 ([(x.fst.snd.snd.snd.snd.snd.snd.snd.snd.snd.snd.snd.snd.snd.snd.snd.fst, 1073741824, 137438953472, ()), (x.fst.snd.snd.snd.snd.snd.snd.snd.snd.snd.snd.snd.snd.snd.snd.snd.snd.snd.fst, 2147483648, 68719476736, ())], ())) fun v23 => some ((v23.fst, ())))))) := by kernel_rfl
  rw [h]
  unfold law49
  simp only [decide_self, decide_true, Nat.zero_add, Bool.and_true, Bool.true_and, cond_true, leq49o0, rest49o0o0]
noncomputable def fn49 (x : (CarT × Unit)) : Option ((Int × Unit)) := law49 (10 ^ 30) x
theorem reads49 : Reads Try.prog 49 [CarSh] [.int .i64] fn49 := (Reads.of_code mixed (fn := Try.f49) (c := c49) Try.func49 (by kernel_rfl) (by kernel_rfl) env49 200 (L49_fit _) (by kernel_rfl)).to (eq49 _)
noncomputable def s49 : Summ Try.prog := reads49.summ
/- chicane/car.rest -/
noncomputable def c50 : Code := (Try.f50.body.getD .skip)
noncomputable def env50 : Env Try.prog := [s43]
noncomputable def L50 : Loops Try.prog := []
theorem L50_fit : (L50).fit c50 := Loops.fit_nil
noncomputable def law50 (x : (CarT × Unit)) : Option ((Int × Unit)) := (bif x.fst.snd.snd.snd.snd.snd.snd.snd.snd.snd.snd.snd.snd.snd.snd.snd.snd.snd.snd.fst == 0 then (bif x.fst.snd.snd.snd.snd.snd.snd.snd.snd.snd.snd.snd.snd.snd.snd.snd.snd.snd.snd.fst == 0 then (Option.bind (fn43 ([(x.fst.snd.snd.snd.snd.snd.snd.snd.snd.snd.snd.snd.snd.snd.snd.snd.snd.snd.snd.snd.fst, 0, 281474976710656, ()), (x.fst.snd.snd.snd.snd.snd.snd.snd.snd.snd.snd.snd.snd.snd.snd.snd.snd.snd.snd.snd.snd.fst, 0, 70368744177664, ()), (x.fst.snd.snd.snd.snd.snd.snd.snd.snd.snd.snd.snd.snd.snd.snd.snd.snd.snd.snd.snd.snd.snd.fst, 0, 70368744177664, ()), (x.fst.snd.snd.snd.snd.snd.snd.snd.snd.snd.snd.snd.snd.snd.snd.snd.snd.snd.snd.snd.snd.snd.snd.fst, 0, 4294967296, ()), (IntKind.i64.wrap x.fst.snd.snd.snd.snd.snd.snd.snd.snd.snd.snd.snd.snd.snd.snd.snd.snd.snd.snd.snd.snd.snd.snd.snd.fst, 0, 536870912, ()), (IntKind.i64.wrap x.fst.snd.snd.snd.snd.snd.snd.snd.snd.snd.snd.snd.snd.snd.snd.snd.snd.snd.snd.snd.snd.snd.snd.snd.snd.fst, 0, 2147483648, ())], ())) fun v0 => some ((v0.fst, ()))) else some ((40, ()))) else (bif x.fst.snd.snd.snd.snd.snd.snd.snd.snd.snd.snd.snd.snd.snd.snd.snd.snd.snd.snd.fst == 1 then (bif x.fst.snd.snd.snd.snd.snd.snd.snd.snd.snd.snd.snd.snd.snd.snd.snd.snd.snd.snd.fst == 1 then (Option.bind (fn43 ([(x.fst.snd.snd.snd.snd.snd.snd.snd.snd.snd.snd.snd.snd.snd.snd.snd.snd.snd.snd.snd.fst, 0, 281474976710656, ()), (x.fst.snd.snd.snd.snd.snd.snd.snd.snd.snd.snd.snd.snd.snd.snd.snd.snd.snd.snd.snd.snd.fst, 0, 70368744177664, ()), (x.fst.snd.snd.snd.snd.snd.snd.snd.snd.snd.snd.snd.snd.snd.snd.snd.snd.snd.snd.snd.snd.snd.fst, 0, 70368744177664, ()), (x.fst.snd.snd.snd.snd.snd.snd.snd.snd.snd.snd.snd.snd.snd.snd.snd.snd.snd.snd.snd.snd.snd.snd.fst, 0, 4294967296, ()), (IntKind.i64.wrap x.fst.snd.snd.snd.snd.snd.snd.snd.snd.snd.snd.snd.snd.snd.snd.snd.snd.snd.snd.snd.snd.snd.snd.snd.fst, 0, 536870912, ()), (IntKind.i64.wrap x.fst.snd.snd.snd.snd.snd.snd.snd.snd.snd.snd.snd.snd.snd.snd.snd.snd.snd.snd.snd.snd.snd.snd.snd.snd.fst, 0, 2147483648, ())], ())) fun v1 => some ((v1.fst, ()))) else some ((40, ()))) else (bif x.fst.snd.snd.snd.snd.snd.snd.snd.snd.snd.snd.snd.snd.snd.snd.snd.snd.snd.snd.fst == 2 then (Option.bind (fn43 ([(x.fst.snd.snd.snd.snd.snd.snd.snd.snd.snd.snd.snd.snd.snd.snd.snd.snd.snd.snd.snd.fst, 0, 281474976710656, ()), (x.fst.snd.snd.snd.snd.snd.snd.snd.snd.snd.snd.snd.snd.snd.snd.snd.snd.snd.snd.snd.snd.fst, 0, 70368744177664, ()), (x.fst.snd.snd.snd.snd.snd.snd.snd.snd.snd.snd.snd.snd.snd.snd.snd.snd.snd.snd.snd.snd.snd.fst, 0, 70368744177664, ()), (x.fst.snd.snd.snd.snd.snd.snd.snd.snd.snd.snd.snd.snd.snd.snd.snd.snd.snd.snd.snd.snd.snd.snd.fst, 0, 4294967296, ()), (IntKind.i64.wrap x.fst.snd.snd.snd.snd.snd.snd.snd.snd.snd.snd.snd.snd.snd.snd.snd.snd.snd.snd.snd.snd.snd.snd.snd.fst, 0, 536870912, ()), (IntKind.i64.wrap x.fst.snd.snd.snd.snd.snd.snd.snd.snd.snd.snd.snd.snd.snd.snd.snd.snd.snd.snd.snd.snd.snd.snd.snd.snd.fst, 0, 2147483648, ())], ())) fun v2 => some ((v2.fst, ()))) else some ((40, ())))))
theorem eq50 (x : Sh.Ts [CarSh]) : codeLaw Try.prog env50 200 (L50) Try.f50 c50 [CarSh] [.int .i64] x = law50 x := by kernel_rfl
noncomputable def fn50 (x : (CarT × Unit)) : Option ((Int × Unit)) := law50 x
theorem reads50 : Reads Try.prog 50 [CarSh] [.int .i64] fn50 := (Reads.of_code mixed (fn := Try.f50) (c := c50) Try.func50 (by kernel_rfl) (by kernel_rfl) env50 200 (L50_fit) (by kernel_rfl)).to (eq50)
noncomputable def s50 : Summ Try.prog := reads50.summ
/- chicane/car.ease -/
noncomputable def c51 : Code := (Try.f51.body.getD .skip)
noncomputable def env51 : Env Try.prog := [s43, s69, s68]
noncomputable def L51 : Loops Try.prog := []
theorem L51_fit : (L51).fit c51 := Loops.fit_nil
noncomputable def law51 (x : (CarT × Unit)) : Option ((Int × Unit)) := (Option.bind (fn43 ([(x.fst.snd.snd.snd.snd.snd.snd.snd.snd.snd.snd.snd.snd.snd.snd.snd.snd.snd.snd.snd.snd.snd.snd.snd.snd.snd.snd.snd.snd.fst, 0, 17179869184, ()), (x.fst.snd.snd.snd.snd.snd.snd.snd.snd.snd.snd.snd.snd.snd.snd.snd.snd.snd.snd.snd.snd.snd.snd.snd.snd.snd.snd.snd.snd.snd.fst, 0, 17179869184, ()), (x.fst.snd.snd.snd.snd.snd.snd.snd.snd.snd.snd.snd.snd.snd.snd.snd.snd.snd.snd.snd.snd.snd.snd.snd.snd.snd.snd.snd.snd.snd.snd.fst, 0, 8796093022208, ()), (x.fst.snd.snd.snd.snd.snd.snd.snd.snd.snd.snd.snd.snd.snd.snd.snd.snd.snd.snd.snd.snd.snd.snd.snd.snd.snd.snd.snd.snd.snd.snd.snd.fst, 0, 8796093022208, ())], ())) fun v0 => (Option.bind (fn69 x.fst.snd.snd.snd.snd.snd.snd.snd.snd.snd.snd.snd.snd.snd.snd.snd.snd.snd.snd.snd.snd.snd.snd.snd.snd.snd.snd.snd.snd.snd.snd) fun v1 => (Option.bind (fn68 ([v0.fst, v1.fst], ())) fun v2 => some ((v2.fst, ())))))
theorem eq51 (x : Sh.Ts [CarSh]) : codeLaw Try.prog env51 200 (L51) Try.f51 c51 [CarSh] [.int .i64] x = law51 x := by kernel_rfl
noncomputable def fn51 (x : (CarT × Unit)) : Option ((Int × Unit)) := law51 x
theorem reads51 : Reads Try.prog 51 [CarSh] [.int .i64] fn51 := (Reads.of_code mixed (fn := Try.f51) (c := c51) Try.func51 (by kernel_rfl) (by kernel_rfl) env51 200 (L51_fit) (by kernel_rfl)).to (eq51)
noncomputable def s51 : Summ Try.prog := reads51.summ
/- chicane/car.all -/
noncomputable def c25 : Code := (Try.f25.body.getD .skip)
noncomputable def env25 : Env Try.prog := [s41, s42, s43, s44, s45, s46, s47, s48, s49, s50, s51]
noncomputable def L25 : Loops Try.prog := []
theorem L25_fit : (L25).fit c25 := Loops.fit_nil
noncomputable def law25 (x : (CarT × Unit)) : Option (List Int) := (Option.bind (fn41 x) fun v0 => (Option.bind (fn42 (x.fst.snd.snd.fst.fst, ())) fun v1 => (Option.bind (fn42 (x.fst.snd.snd.fst.snd.fst, ())) fun v2 => (Option.bind (fn42 (x.fst.snd.snd.fst.snd.snd.fst, ())) fun v3 => (Option.bind (fn42 x.fst.snd.snd.fst.snd.snd.snd) fun v4 => (Option.bind (fn43 ([(x.fst.snd.snd.snd.fst.fst, 0, 562949953421312, ()), (x.fst.snd.snd.snd.fst.snd.fst, 0, 562949953421312, ())], ())) fun v5 => (Option.bind (fn44x45 (x.fst.snd.snd.snd.snd.fst, -140737488355328, 140737488355328, ()) ()) fun v6 => (Option.bind (fn46 (x.fst.snd.snd.snd.snd.snd.fst, ())) fun v7 => (Option.bind (fn44x47 (x.fst.snd.snd.snd.snd.snd.snd.fst, -17592186044416, 17592186044416, ()) ()) fun v8 => (Option.bind (fn44x47 (x.fst.snd.snd.snd.snd.snd.snd.snd.fst, 0, 140737488355328, ()) ()) fun v9 => (Option.bind (fn48 x) fun v10 => (Option.bind (fn49 x) fun v11 => (Option.bind (fn50 x) fun v12 => (Option.bind (fn51 x) fun v13 => some ([v0.fst, v1.fst, v2.fst, v3.fst, v4.fst, v5.fst, v6.fst, v7.fst, v8.fst, v9.fst, v10.fst, v11.fst, v12.fst, v13.fst])))))))))))))))
theorem eq25 (x : Sh.Ts [CarSh]) : codeLawF Try.prog env25 200 (L25) Try.f25 c25 [CarSh] (.int .i64) x = law25 x := by
  have h : codeLawF Try.prog env25 200 (L25) Try.f25 c25 [CarSh] (.int .i64) x = (bif decide (List.length x.fst.snd.snd.snd.snd.fst = List.length x.fst.snd.snd.snd.snd.fst) && (decide (List.length x.fst.snd.snd.snd.snd.snd.fst.fst = List.length x.fst.snd.snd.snd.snd.snd.fst.fst) && (decide (List.length x.fst.snd.snd.snd.snd.snd.fst.snd.fst = List.length x.fst.snd.snd.snd.snd.snd.fst.snd.fst) && (decide (List.length x.fst.snd.snd.snd.snd.snd.fst.snd.snd.fst = List.length x.fst.snd.snd.snd.snd.snd.fst.snd.snd.fst) && true)) && (decide (List.length x.fst.snd.snd.snd.snd.snd.snd.fst = List.length x.fst.snd.snd.snd.snd.snd.snd.fst) && (decide (List.length x.fst.snd.snd.snd.snd.snd.snd.snd.fst = List.length x.fst.snd.snd.snd.snd.snd.snd.snd.fst) && (decide (List.length x.fst.snd.snd.snd.snd.snd.snd.snd.snd.snd.snd.snd.snd.snd.snd.snd.snd.fst = List.length x.fst.snd.snd.snd.snd.snd.snd.snd.snd.snd.snd.snd.snd.snd.snd.snd.snd.fst) && true)))) && true then (Option.bind (fn41 x) fun v0 => (Option.bind (fn42 (x.fst.snd.snd.fst.fst, ())) fun v1 => (Option.bind (fn42 (x.fst.snd.snd.fst.snd.fst, ())) fun v2 => (Option.bind (fn42 (x.fst.snd.snd.fst.snd.snd.fst, ())) fun v3 => (Option.bind (fn42 x.fst.snd.snd.fst.snd.snd.snd) fun v4 => (Option.bind (fn43 ([(x.fst.snd.snd.snd.fst.fst, 0, 562949953421312, ()), (x.fst.snd.snd.snd.fst.snd.fst, 0, 562949953421312, ())], ())) fun v5 => (bif decide (List.length x.fst.snd.snd.snd.snd.fst = List.length x.fst.snd.snd.snd.snd.fst) && true && true then (Option.bind (fn44x45 (x.fst.snd.snd.snd.snd.fst, -140737488355328, 140737488355328, ()) ()) fun v6 => (bif decide (List.length x.fst.snd.snd.snd.snd.snd.fst.fst = List.length x.fst.snd.snd.snd.snd.snd.fst.fst) && (decide (List.length x.fst.snd.snd.snd.snd.snd.fst.snd.fst = List.length x.fst.snd.snd.snd.snd.snd.fst.snd.fst) && (decide (List.length x.fst.snd.snd.snd.snd.snd.fst.snd.snd.fst = List.length x.fst.snd.snd.snd.snd.snd.fst.snd.snd.fst) && true)) && true then (Option.bind (fn46 (x.fst.snd.snd.snd.snd.snd.fst, ())) fun v7 => (bif decide (List.length x.fst.snd.snd.snd.snd.snd.snd.fst = List.length x.fst.snd.snd.snd.snd.snd.snd.fst) && true && true then (Option.bind (fn44x47 (x.fst.snd.snd.snd.snd.snd.snd.fst, -17592186044416, 17592186044416, ()) ()) fun v8 => (bif decide (List.length x.fst.snd.snd.snd.snd.snd.snd.snd.fst = List.length x.fst.snd.snd.snd.snd.snd.snd.snd.fst) && true && true then (Option.bind (fn44x47 (x.fst.snd.snd.snd.snd.snd.snd.snd.fst, 0, 140737488355328, ()) ()) fun v9 => (bif decide (List.length x.fst.snd.snd.snd.snd.fst = List.length x.fst.snd.snd.snd.snd.fst) && (decide (List.length x.fst.snd.snd.snd.snd.snd.fst.fst = List.length x.fst.snd.snd.snd.snd.snd.fst.fst) && (decide (List.length x.fst.snd.snd.snd.snd.snd.fst.snd.fst = List.length x.fst.snd.snd.snd.snd.snd.fst.snd.fst) && (decide (List.length x.fst.snd.snd.snd.snd.snd.fst.snd.snd.fst = List.length x.fst.snd.snd.snd.snd.snd.fst.snd.snd.fst) && true)) && (decide (List.length x.fst.snd.snd.snd.snd.snd.snd.fst = List.length x.fst.snd.snd.snd.snd.snd.snd.fst) && (decide (List.length x.fst.snd.snd.snd.snd.snd.snd.snd.fst = List.length x.fst.snd.snd.snd.snd.snd.snd.snd.fst) && (decide (List.length x.fst.snd.snd.snd.snd.snd.snd.snd.snd.snd.snd.snd.snd.snd.snd.snd.snd.fst = List.length x.fst.snd.snd.snd.snd.snd.snd.snd.snd.snd.snd.snd.snd.snd.snd.snd.snd.fst) && true)))) && true then (Option.bind (fn48 x) fun v10 => (bif decide (List.length x.fst.snd.snd.snd.snd.fst = List.length x.fst.snd.snd.snd.snd.fst) && (decide (List.length x.fst.snd.snd.snd.snd.snd.fst.fst = List.length x.fst.snd.snd.snd.snd.snd.fst.fst) && (decide (List.length x.fst.snd.snd.snd.snd.snd.fst.snd.fst = List.length x.fst.snd.snd.snd.snd.snd.fst.snd.fst) && (decide (List.length x.fst.snd.snd.snd.snd.snd.fst.snd.snd.fst = List.length x.fst.snd.snd.snd.snd.snd.fst.snd.snd.fst) && true)) && (decide (List.length x.fst.snd.snd.snd.snd.snd.snd.fst = List.length x.fst.snd.snd.snd.snd.snd.snd.fst) && (decide (List.length x.fst.snd.snd.snd.snd.snd.snd.snd.fst = List.length x.fst.snd.snd.snd.snd.snd.snd.snd.fst) && (decide (List.length x.fst.snd.snd.snd.snd.snd.snd.snd.snd.snd.snd.snd.snd.snd.snd.snd.snd.fst = List.length x.fst.snd.snd.snd.snd.snd.snd.snd.snd.snd.snd.snd.snd.snd.snd.snd.snd.fst) && true)))) && true then (Option.bind (fn49 x) fun v11 => (bif decide (List.length x.fst.snd.snd.snd.snd.fst = List.length x.fst.snd.snd.snd.snd.fst) && (decide (List.length x.fst.snd.snd.snd.snd.snd.fst.fst = List.length x.fst.snd.snd.snd.snd.snd.fst.fst) && (decide (List.length x.fst.snd.snd.snd.snd.snd.fst.snd.fst = List.length x.fst.snd.snd.snd.snd.snd.fst.snd.fst) && (decide (List.length x.fst.snd.snd.snd.snd.snd.fst.snd.snd.fst = List.length x.fst.snd.snd.snd.snd.snd.fst.snd.snd.fst) && true)) && (decide (List.length x.fst.snd.snd.snd.snd.snd.snd.fst = List.length x.fst.snd.snd.snd.snd.snd.snd.fst) && (decide (List.length x.fst.snd.snd.snd.snd.snd.snd.snd.fst = List.length x.fst.snd.snd.snd.snd.snd.snd.snd.fst) && (decide (List.length x.fst.snd.snd.snd.snd.snd.snd.snd.snd.snd.snd.snd.snd.snd.snd.snd.snd.fst = List.length x.fst.snd.snd.snd.snd.snd.snd.snd.snd.snd.snd.snd.snd.snd.snd.snd.snd.fst) && true)))) && true then (Option.bind (fn50 x) fun v12 => (bif decide (List.length x.fst.snd.snd.snd.snd.fst = List.length x.fst.snd.snd.snd.snd.fst) && (decide (List.length x.fst.snd.snd.snd.snd.snd.fst.fst = List.length x.fst.snd.snd.snd.snd.snd.fst.fst) && (decide (List.length x.fst.snd.snd.snd.snd.snd.fst.snd.fst = List.length x.fst.snd.snd.snd.snd.snd.fst.snd.fst) && (decide (List.length x.fst.snd.snd.snd.snd.snd.fst.snd.snd.fst = List.length x.fst.snd.snd.snd.snd.snd.fst.snd.snd.fst) && true)) && (decide (List.length x.fst.snd.snd.snd.snd.snd.snd.fst = List.length x.fst.snd.snd.snd.snd.snd.snd.fst) && (decide (List.length x.fst.snd.snd.snd.snd.snd.snd.snd.fst = List.length x.fst.snd.snd.snd.snd.snd.snd.snd.fst) && (decide (List.length x.fst.snd.snd.snd.snd.snd.snd.snd.snd.snd.snd.snd.snd.snd.snd.snd.snd.fst = List.length x.fst.snd.snd.snd.snd.snd.snd.snd.snd.snd.snd.snd.snd.snd.snd.snd.snd.fst) && true)))) && true then (Option.bind (fn51 x) fun v13 => some ([v0.fst, v1.fst, v2.fst, v3.fst, v4.fst, v5.fst, v6.fst, v7.fst, v8.fst, v9.fst, v10.fst, v11.fst, v12.fst, v13.fst])) else none)) else none)) else none)) else none)) else none)) else none)) else none)) else none))))))) else none) := by kernel_rfl
  rw [h]
  unfold law25
  simp only [decide_self, decide_true, Nat.zero_add, Bool.and_true, Bool.true_and, cond_true]
noncomputable def fn25 (x : (CarT × Unit)) : Option (List (Int)) := law25 x
theorem reads25 : ReadsF Try.prog 25 [CarSh] (.int .i64) fn25 := (ReadsF.of_code mixed (fn := Try.f25) (c := c25) Try.func25 (by kernel_rfl) (by kernel_rfl) env25 200 (L25_fit)).to (eq25)
noncomputable def s25 : Summ Try.prog := reads25.summ
/- chicane/car.Right$1 -/
noncomputable def c27 : Code := (Try.f27.body.getD .skip)
noncomputable def env27 : Env Try.prog := []
noncomputable def L27 : Loops Try.prog := []
theorem L27_fit : (L27).fit c27 := Loops.fit_nil
noncomputable def law27 (x : (Int × Unit)) : Option ((Bool × Unit)) := some ((x.fst != 0, ()))
theorem eq27 (x : Sh.Ts [Sh.int IntKind.i64]) : codeLaw Try.prog env27 200 (L27) Try.f27 c27 [.int .i64] [.bool] x = law27 x := by kernel_rfl
noncomputable def fn27 (x : (Int × Unit)) : Option ((Bool × Unit)) := law27 x
theorem reads27 : Reads Try.prog 27 [.int .i64] [.bool] fn27 := (Reads.of_code mixed (fn := Try.f27) (c := c27) Try.func27 (by kernel_rfl) (by kernel_rfl) env27 200 (L27_fit) (by kernel_rfl)).to (eq27)
noncomputable def s27 : Summ Try.prog := reads27.summ
/- slices.IndexFunc[[]chicane/api.Errno,chicane/api.Errno] -/
noncomputable def c26x27 : Code := (Try.f26.body.getD .skip)
noncomputable def env26x27 : Env Try.prog := [s27]
noncomputable def b26x27_0 : Code := ((kid ((subAt c26x27 [0, 1, 0, 1]).getD .skip) 0).getD .skip)
noncomputable def kx26x27_0 : Exit → List Nat | .ret => [4] | _ => []
noncomputable def Li26x27_0 (N0 : Nat) : Loops Try.prog := []
noncomputable def ls26x27_0 (N0 : Nat) : LSumm Try.prog := loopSumm mixed env26x27 200 (Li26x27_0 N0) b26x27_0 (Loops.fit_nil) [0, 1, 7, 8] kx26x27_0 (N0)
noncomputable def ln26x27_0 {β : Type} (N0 : Nat) (n : Nat) (t : List AV) (h : Heap) (K : Exit → List AV → Heap → Option β) : Option β := loopN Try.prog env26x27 (Sh.nes [.sl (.int .i64)] + Sh.nes [] + List.length (α := Sh) []) 200 (Li26x27_0 N0) b26x27_0 [0, 1, 7, 8] kx26x27_0 n t h K
noncomputable def L26x27 (N0 : Nat) : Loops Try.prog := [([0, 1, 0, 1], ls26x27_0 N0)]
theorem L26x27_fit (N0 : Nat) : (L26x27 N0).fit c26x27 := Loops.fit_cons (by kernel_rfl) (Loops.fit_nil)
noncomputable def K26x27 : Exit → List AV → Heap → Option (Sh.Ts [.int .i64]) := fun e t h => outK (P := Try.prog) Try.f26 [.int .i64] e t h
noncomputable def rk26x27_0 (N0 : Nat) : Exit → List AV → Heap → Option (Sh.Ts [.int .i64]) := (blkK 0 (seqK Try.prog env26x27 (Sh.nes [.sl (.int .i64)] + Sh.nes [] + List.length (α := Sh) []) 198 (L26x27 N0) [1, 1] ((subAt c26x27 [1, 1]).getD .skip) K26x27))
noncomputable def t26x27_0 (N0 : Nat) (x : Sh.Ts [(Sh.int IntKind.i64).sl]) (i5 : Int) : List AV := [AV.slc 0 0 (List.length x.fst) Cap.low, AV.fn (Fn.func 27) [] [], AV.any, AV.any, AV.any, AV.any, AV.any, AV.val (Value.int IntKind.i64 (↑(List.length x.fst) : Int)), AV.val (Value.int IntKind.i64 i5), AV.any, AV.any, AV.any, AV.any, AV.any, AV.any, AV.any, AV.any, AV.any, AV.any]
noncomputable def h26x27_0 (N0 : Nat) (x : Sh.Ts [(Sh.int IntKind.i64).sl]) (i5 : Int) : Heap := [Ent.live (Blk.mk (Cells.arr (Sh.int IntKind.i64) x.fst) false none)]
noncomputable def tx26x27_0_0 (N0 : Nat) (x : Sh.Ts [(Sh.int IntKind.i64).sl]) (w7 : Int) : List AV := [AV.any, AV.any, AV.any, AV.any, AV.val (Value.int IntKind.i64 w7), AV.any, AV.any, AV.any, AV.any, AV.any, AV.any, AV.any, AV.any, AV.any, AV.any, AV.any, AV.any, AV.any, AV.any]
noncomputable def hx26x27_0_0 (N0 : Nat) (x : Sh.Ts [(Sh.int IntKind.i64).sl]) (w7 : Int) : Heap := [Ent.live (Blk.mk (Cells.arr (Sh.int IntKind.i64) x.fst) false none)]
noncomputable def tx26x27_0_1 (N0 : Nat) (x : Sh.Ts [(Sh.int IntKind.i64).sl]) : List AV := [AV.any, AV.any, AV.any, AV.any, AV.any, AV.any, AV.any, AV.any, AV.any, AV.any, AV.any, AV.any, AV.any, AV.any, AV.any, AV.any, AV.any, AV.any, AV.any]
noncomputable def hx26x27_0_1 (N0 : Nat) (x : Sh.Ts [(Sh.int IntKind.i64).sl]) : Heap := [Ent.live (Blk.mk (Cells.arr (Sh.int IntKind.i64) x.fst) false none)]
noncomputable def law26x27_0 {β : Type} (N0 : Nat) (x : ((List Int) × Unit)) (k0 : Int → Option β) (k1 : Option β) : Nat → Int → Option β
  | 0, _ => none
  | n + 1, i5 => (bif decide (i5 < (↑(List.length x.fst) : Int)) then (bif decide (0 ≤ i5) && decide (i5 < (↑(List.length x.fst) : Int)) then (Option.bind x.fst[i5.toNat]? fun v6 => (bif v6 != 0 then k0 i5 else law26x27_0 N0 x k0 k1 n (IntKind.i64.wrap (i5 + 1)))) else none) else k1)
theorem leq26x27_0 {β : Type} (N0 : Nat) (x : Sh.Ts [(Sh.int IntKind.i64).sl]) (K : Exit → List AV → Heap → Option β) : ∀ (n : Nat) (i5 : Int), ln26x27_0 N0 n (t26x27_0 N0 x i5) (h26x27_0 N0 x i5) K = law26x27_0 N0 x (fun w7 => K (Exit.ret) (tx26x27_0_0 N0 x w7) (hx26x27_0_0 N0 x w7)) (K (Exit.exit 0) (tx26x27_0_1 N0 x) (hx26x27_0_1 N0 x)) n i5
  | 0, _ => rfl
  | n + 1, i5 => by
    have h : ln26x27_0 N0 (n + 1) (t26x27_0 N0 x i5) (h26x27_0 N0 x i5) K = (bif decide (i5 < (↑(List.length x.fst) : Int)) then (bif decide (0 ≤ i5) && decide (i5 < (↑(List.length x.fst) : Int)) then (Option.bind (x.fst[0 + i5.toNat]?) fun v6 => (bif v6 != 0 then K (Exit.ret) (tx26x27_0_0 N0 x i5) (hx26x27_0_0 N0 x i5) else ln26x27_0 N0 n (t26x27_0 N0 x (IntKind.i64.wrap (i5 + 1))) (h26x27_0 N0 x (IntKind.i64.wrap (i5 + 1))) K)) else none) else K (Exit.exit 0) (tx26x27_0_1 N0 x) (hx26x27_0_1 N0 x)) := by kernel_rfl
    rw [h]
    simp only [decide_self, decide_true, Nat.zero_add, Bool.and_true, Bool.true_and, cond_true, law26x27_0, leq26x27_0 N0 x K n]
theorem rest26x27_0_0 (N0 : Nat) (x : Sh.Ts [(Sh.int IntKind.i64).sl]) (w8 : Int) : rk26x27_0 N0 (Exit.ret) (tx26x27_0_0 N0 x w8) (hx26x27_0_0 N0 x w8) = some ((w8, ())) := by kernel_rfl
theorem rest26x27_0_1 (N0 : Nat) (x : Sh.Ts [(Sh.int IntKind.i64).sl]) : rk26x27_0 N0 (Exit.exit 0) (tx26x27_0_1 N0 x) (hx26x27_0_1 N0 x) = some ((-1, ())) := by kernel_rfl
noncomputable def law26x27 (N0 : Nat) (x : ((List Int) × Unit)) (xs : (Unit)) : Option ((Int × Unit)) := (law26x27_0 N0 x (fun w8 => some ((w8, ()))) (some ((-1, ()))) N0 0)
theorem eq26x27 (N0 : Nat) (x : Sh.Ts [(Sh.int IntKind.i64).sl]) (xs : Sh.Ts []) : codeLawC Try.prog env26x27 200 (L26x27 N0) Try.f26 c26x27 [.sl (.int .i64)] 27 [] [.int .i64] x xs = law26x27 N0 x xs := by
  have h : codeLawC Try.prog env26x27 200 (L26x27 N0) Try.f26 c26x27 [.sl (.int .i64)] 27 [] [.int .i64] x xs = (ln26x27_0 N0 N0 (t26x27_0 N0 x 0) (h26x27_0 N0 x 0) (rk26x27_0 N0)) := by kernel_rfl
  rw [h]
  unfold law26x27
  simp only [decide_self, decide_true, Nat.zero_add, Bool.and_true, Bool.true_and, cond_true, leq26x27_0, rest26x27_0_0, rest26x27_0_1]
noncomputable def fn26x27 (x : ((List Int) × Unit)) (xs : (Unit)) : Option ((Int × Unit)) := law26x27 (10 ^ 30) x xs
theorem reads26x27 : ReadsC Try.prog 26 [.sl (.int .i64)] 27 [] [.int .i64] fn26x27 := (ReadsC.of_code mixed (fn := Try.f26) (c := c26x27) Try.func26 (by kernel_rfl) (by kernel_rfl) env26x27 200 (L26x27_fit _) (by kernel_rfl)).to (eq26x27 _)
noncomputable def s26x27 : Summ Try.prog := reads26x27.summ (by kernel_rfl)
noncomputable def s26 : Summ Try.prog := s26x27
/- chicane/car.Right -/
noncomputable def c11 : Code := (Try.f11.body.getD .skip)
noncomputable def env11 : Env Try.prog := [s25, s26, s27]
noncomputable def L11 : Loops Try.prog := []
theorem L11_fit : (L11).fit c11 := Loops.fit_nil
noncomputable def law11 (x : (CarT × Unit)) : Option ((Int × Int × Unit)) := (Option.bind (fn25 x) fun v0 => (Option.bind (fn26x27 (v0, ()) ()) fun v1 => (bif decide (v1.fst < 0) then some ((0, 0, ())) else (bif decide (0 ≤ v1.fst) && decide (v1.fst < (↑v0.length : Int)) then (Option.bind (v0[Int.toNat v1.fst]?) fun v2 => some ((v2, v1.fst, ()))) else none))))
theorem eq11 (x : Sh.Ts [CarSh]) : codeLaw Try.prog env11 200 (L11) Try.f11 c11 [CarSh] [.int .i64, .int .i64] x = law11 x := by
  have h : codeLaw Try.prog env11 200 (L11) Try.f11 c11 [CarSh] [.int .i64, .int .i64] x = (bif decide (List.length x.fst.snd.snd.snd.snd.fst = List.length x.fst.snd.snd.snd.snd.fst) && (decide (List.length x.fst.snd.snd.snd.snd.snd.fst.fst = List.length x.fst.snd.snd.snd.snd.snd.fst.fst) && (decide (List.length x.fst.snd.snd.snd.snd.snd.fst.snd.fst = List.length x.fst.snd.snd.snd.snd.snd.fst.snd.fst) && (decide (List.length x.fst.snd.snd.snd.snd.snd.fst.snd.snd.fst = List.length x.fst.snd.snd.snd.snd.snd.fst.snd.snd.fst) && true)) && (decide (List.length x.fst.snd.snd.snd.snd.snd.snd.fst = List.length x.fst.snd.snd.snd.snd.snd.snd.fst) && (decide (List.length x.fst.snd.snd.snd.snd.snd.snd.snd.fst = List.length x.fst.snd.snd.snd.snd.snd.snd.snd.fst) && (decide (List.length x.fst.snd.snd.snd.snd.snd.snd.snd.snd.snd.snd.snd.snd.snd.snd.snd.snd.fst = List.length x.fst.snd.snd.snd.snd.snd.snd.snd.snd.snd.snd.snd.snd.snd.snd.snd.snd.fst) && true)))) && true then (Option.bind (fn25 x) fun v0 => (bif decide (v0.length = v0.length) && true && true then (Option.bind (fn26x27 (v0, ()) ()) fun v1 => (bif decide (v1.fst < 0) then some ((0, 0, ())) else (bif decide (0 ≤ v1.fst) && decide (v1.fst < (↑v0.length : Int)) then (Option.bind (v0[0 + Int.toNat v1.fst]?) fun v2 => some ((v2, v1.fst, ()))) else none))) else none)) else none) := by kernel_rfl
  rw [h]
  unfold law11
  simp only [decide_self, decide_true, Nat.zero_add, Bool.and_true, Bool.true_and, cond_true]
noncomputable def fn11 (x : (CarT × Unit)) : Option ((Int × Int × Unit)) := law11 x
theorem reads11 : Reads Try.prog 11 [CarSh] [.int .i64, .int .i64] fn11 := (Reads.of_code mixed (fn := Try.f11) (c := c11) Try.func11 (by kernel_rfl) (by kernel_rfl) env11 200 (L11_fit) (by kernel_rfl)).to (eq11)
noncomputable def s11 : Summ Try.prog := reads11.summ
/- chicane/fx.Clamp -/
noncomputable def c15 : Code := (Try.f15.body.getD .skip)
noncomputable def env15 : Env Try.prog := []
noncomputable def L15 : Loops Try.prog := []
theorem L15_fit : (L15).fit c15 := Loops.fit_nil
noncomputable def law15 (x : (Int × Int × Int × Unit)) : Option ((Int × Unit)) := (bif decide (x.fst < x.snd.fst) then some ((x.snd.fst, ())) else (bif decide (x.fst > x.snd.snd.fst) then some ((x.snd.snd.fst, ())) else some ((x.fst, ()))))
theorem eq15 (x : Sh.Ts [Sh.int IntKind.i64, Sh.int IntKind.i64, Sh.int IntKind.i64]) : codeLaw Try.prog env15 200 (L15) Try.f15 c15 [.int .i64, .int .i64, .int .i64] [.int .i64] x = law15 x := by kernel_rfl
noncomputable def fn15 (x : (Int × Int × Int × Unit)) : Option ((Int × Unit)) := law15 x
theorem reads15 : Reads Try.prog 15 [.int .i64, .int .i64, .int .i64] [.int .i64] fn15 := (Reads.of_code mixed (fn := Try.f15) (c := c15) Try.func15 (by kernel_rfl) (by kernel_rfl) env15 200 (L15_fit) (by kernel_rfl)).to (eq15)
noncomputable def s15 : Summ Try.prog := reads15.summ
/- chicane/chicaneref02.Clamp -/
noncomputable def c22 : Code := (Try.f22.body.getD .skip)
noncomputable def env22 : Env Try.prog := []
noncomputable def L22 : Loops Try.prog := []
theorem L22_fit : (L22).fit c22 := Loops.fit_nil
noncomputable def law22 (x : (Int × Int × Int × Unit)) : Option ((Int × Unit)) := (bif decide (x.fst < x.snd.fst) then some ((x.snd.fst, ())) else (bif decide (x.fst > x.snd.snd.fst) then some ((x.snd.snd.fst, ())) else some ((x.fst, ()))))
theorem eq22 (x : Sh.Ts [Sh.int IntKind.i64, Sh.int IntKind.i64, Sh.int IntKind.i64]) : codeLaw Try.prog env22 200 (L22) Try.f22 c22 [.int .i64, .int .i64, .int .i64] [.int .i64] x = law22 x := by kernel_rfl
noncomputable def fn22 (x : (Int × Int × Int × Unit)) : Option ((Int × Unit)) := law22 x
theorem reads22 : Reads Try.prog 22 [.int .i64, .int .i64, .int .i64] [.int .i64] fn22 := (Reads.of_code mixed (fn := Try.f22) (c := c22) Try.func22 (by kernel_rfl) (by kernel_rfl) env22 200 (L22_fit) (by kernel_rfl)).to (eq22)
noncomputable def s22 : Summ Try.prog := reads22.summ
/- chicane/chicanelaw09.Few -/
noncomputable def c13 : Code := (Try.f13.body.getD .skip)
noncomputable def env13 : Env Try.prog := []
noncomputable def b13o0 : Code := ((kid ((subAt c13 [0, 1, 0, 1, 1]).getD .skip) 0).getD .skip)
noncomputable def kx13o0 : Exit → List Nat | .ret => [2] | _ => []
noncomputable def Li13o0 (N0 : Nat) : Loops Try.prog := []
noncomputable def ls13o0 (N0 : Nat) : LSumm Try.prog := loopSumm mixed env13 200 (Li13o0 N0) b13o0 (Loops.fit_nil) [1, 3] kx13o0 (N0)
noncomputable def ln13o0 {β : Type} (N0 : Nat) (n : Nat) (t : List AV) (h : Heap) (K : Exit → List AV → Heap → Option β) : Option β := loopN Try.prog env13 (Sh.nes [PaneSh]) 200 (Li13o0 N0) b13o0 [1, 3] kx13o0 n t h K
noncomputable def L13 (N0 : Nat) : Loops Try.prog := [([0, 1, 0, 1, 1], ls13o0 N0)]
theorem L13_fit (N0 : Nat) : (L13 N0).fit c13 := Loops.fit_cons (by kernel_rfl) (Loops.fit_nil)
noncomputable def K13 : Exit → List AV → Heap → Option (Sh.Ts [.bool]) := fun e t h => outK (P := Try.prog) Try.f13 [.bool] e t h
noncomputable def rk13o0 (N0 : Nat) : Exit → List AV → Heap → Option (Sh.Ts [.bool]) := (blkK 0 (seqK Try.prog env13 (Sh.nes [PaneSh]) 197 (L13 N0) [1, 1, 1] ((subAt c13 [1, 1, 1]).getD .skip) K13))
noncomputable def t13o0 (N0 : Nat) (x : Sh.Ts [PaneSh]) (i8 : Int) : List AV := [AV.any, AV.ptr 3 0, AV.any, AV.val (Value.int IntKind.i64 i8), AV.any, AV.any, AV.any, AV.any, AV.any, AV.any, AV.any, AV.any, AV.any, AV.any, AV.any, AV.any, AV.any, AV.any, AV.any, AV.any, AV.any, AV.any, AV.any, AV.any, AV.any, AV.any, AV.any, AV.any, AV.any, AV.any, AV.any, AV.any, AV.any, AV.any]
noncomputable def h13o0 (N0 : Nat) (x : Sh.Ts [PaneSh]) (i8 : Int) : Heap := [Ent.live (Blk.mk (Cells.arr (Sh.int IntKind.i64) x.fst.fst) false none), Ent.live (Blk.mk (Cells.arr (Sh.int IntKind.i64) x.fst.snd.fst) false none), Ent.live (Blk.mk (Cells.arrs (Sh.int IntKind.i64) x.fst.snd.snd.fst) false none), Ent.live (Blk.mk (Cells.lit [AV.slc 0 0 (List.length x.fst.fst) Cap.low, AV.slc 1 0 (List.length x.fst.snd.fst) Cap.low, AV.slc 2 0 (List.length x.fst.snd.snd.fst) Cap.low]) true none)]
noncomputable def tx13o0o0 (N0 : Nat) (x : Sh.Ts [PaneSh]) : List AV := [AV.any, AV.any, AV.val (Value.bool false), AV.any, AV.any, AV.any, AV.any, AV.any, AV.any, AV.any, AV.any, AV.any, AV.any, AV.any, AV.any, AV.any, AV.any, AV.any, AV.any, AV.any, AV.any, AV.any, AV.any, AV.any, AV.any, AV.any, AV.any, AV.any, AV.any, AV.any, AV.any, AV.any, AV.any, AV.any]
noncomputable def hx13o0o0 (N0 : Nat) (x : Sh.Ts [PaneSh]) : Heap := [Ent.live (Blk.mk (Cells.arr (Sh.int IntKind.i64) x.fst.fst) false none), Ent.live (Blk.mk (Cells.arr (Sh.int IntKind.i64) x.fst.snd.fst) false none), Ent.live (Blk.mk (Cells.arrs (Sh.int IntKind.i64) x.fst.snd.snd.fst) false none)]
noncomputable def tx13o0o1 (N0 : Nat) (x : Sh.Ts [PaneSh]) : List AV := [AV.any, AV.any, AV.any, AV.any, AV.any, AV.any, AV.any, AV.any, AV.any, AV.any, AV.any, AV.any, AV.any, AV.any, AV.any, AV.any, AV.any, AV.any, AV.any, AV.any, AV.any, AV.any, AV.any, AV.any, AV.any, AV.any, AV.any, AV.any, AV.any, AV.any, AV.any, AV.any, AV.any, AV.any]
noncomputable def hx13o0o1 (N0 : Nat) (x : Sh.Ts [PaneSh]) : Heap := [Ent.live (Blk.mk (Cells.arr (Sh.int IntKind.i64) x.fst.fst) false none), Ent.live (Blk.mk (Cells.arr (Sh.int IntKind.i64) x.fst.snd.fst) false none), Ent.live (Blk.mk (Cells.arrs (Sh.int IntKind.i64) x.fst.snd.snd.fst) false none)]
noncomputable def law13o0 {β : Type} (N0 : Nat) (x : (PaneT × Unit)) (k0 : Option β) (k1 : Option β) : Nat → Int → Option β
  | 0, _ => none
  | n + 1, i8 => (bif decide (i8 < (↑(List.length x.fst.snd.snd.fst) : Int)) then (bif decide (0 ≤ i8) && decide (i8 < (↑(List.length x.fst.snd.snd.fst) : Int)) then (Option.bind x.fst.snd.snd.fst[i8.toNat]? fun v9 => (bif decide ((↑v9.length : Int) > 40) then k0 else law13o0 N0 x k0 k1 n (IntKind.i64.wrap (i8 + 1)))) else none) else k1)
theorem leq13o0 {β : Type} (N0 : Nat) (x : Sh.Ts [PaneSh]) (K : Exit → List AV → Heap → Option β) : ∀ (n : Nat) (i8 : Int), ln13o0 N0 n (t13o0 N0 x i8) (h13o0 N0 x i8) K = law13o0 N0 x (K (Exit.ret) (tx13o0o0 N0 x) (hx13o0o0 N0 x)) (K (Exit.exit 0) (tx13o0o1 N0 x) (hx13o0o1 N0 x)) n i8
  | 0, _ => rfl
  | n + 1, i8 => by
    have h : ln13o0 N0 (n + 1) (t13o0 N0 x i8) (h13o0 N0 x i8) K = (bif decide (i8 < (↑(List.length x.fst.snd.snd.fst) : Int)) then (bif decide (0 ≤ i8) && decide (i8 < (↑(List.length x.fst.snd.snd.fst) : Int)) then (Option.bind (x.fst.snd.snd.fst[0 + i8.toNat]?) fun v9 => (bif decide ((↑v9.length : Int) > 40) then K (Exit.ret) (tx13o0o0 N0 x) (hx13o0o0 N0 x) else ln13o0 N0 n (t13o0 N0 x (IntKind.i64.wrap (i8 + 1))) (h13o0 N0 x (IntKind.i64.wrap (i8 + 1))) K)) else none) else K (Exit.exit 0) (tx13o0o1 N0 x) (hx13o0o1 N0 x)) := by kernel_rfl
    rw [h]
    simp only [decide_self, decide_true, Nat.zero_add, Bool.and_true, Bool.true_and, cond_true, law13o0, leq13o0 N0 x K n]
theorem rest13o0o0 (N0 : Nat) (x : Sh.Ts [PaneSh]) : rk13o0 N0 (Exit.ret) (tx13o0o0 N0 x) (hx13o0o0 N0 x) = some ((false, ())) := by kernel_rfl
theorem rest13o0o1 (N0 : Nat) (x : Sh.Ts [PaneSh]) : rk13o0 N0 (Exit.exit 0) (tx13o0o1 N0 x) (hx13o0o1 N0 x) = some ((true, ())) := by kernel_rfl
noncomputable def law13 (N0 : Nat) (x : (PaneT × Unit)) : Option ((Bool × Unit)) := (bif decide ((↑(List.length x.fst.fst) : Int) > 40) then some ((false, ())) else (bif decide ((↑(List.length x.fst.snd.fst) : Int) > 40) then some ((false, ())) else (bif decide ((↑(List.length x.fst.snd.snd.fst) : Int) > 40) then some ((false, ())) else (law13o0 N0 x (some ((false, ()))) (some ((true, ()))) N0 0))))
theorem eq13 (N0 : Nat) (x : Sh.Ts [PaneSh]) : codeLaw Try.prog env13 200 (L13 N0) Try.f13 c13 [PaneSh] [.bool] x = law13 N0 x := by
  have h : codeLaw Try.prog env13 200 (L13 N0) Try.f13 c13 [PaneSh] [.bool] x = (bif decide ((↑(List.length x.fst.fst) : Int) > 40) then some ((false, ())) else (bif decide ((↑(List.length x.fst.snd.fst) : Int) > 40) then some ((false, ())) else (bif decide ((↑(List.length x.fst.snd.snd.fst) : Int) > 40) then some ((false, ())) else (ln13o0 N0 N0 (t13o0 N0 x 0) (h13o0 N0 x 0) (rk13o0 N0))))) := by kernel_rfl
  rw [h]
  unfold law13
  simp only [decide_self, decide_true, Nat.zero_add, Bool.and_true, Bool.true_and, cond_true, leq13o0, rest13o0o0, rest13o0o1]
noncomputable def fn13 (x : (PaneT × Unit)) : Option ((Bool × Unit)) := law13 (10 ^ 30) x
theorem reads13 : Reads Try.prog 13 [PaneSh] [.bool] fn13 := (Reads.of_code mixed (fn := Try.f13) (c := c13) Try.func13 (by kernel_rfl) (by kernel_rfl) env13 200 (L13_fit _) (by kernel_rfl)).to (eq13 _)
noncomputable def s13 : Summ Try.prog := reads13.summ
/- chicane/chicanelaw17.Few -/
noncomputable def c7 : Code := (Try.f7.body.getD .skip)
noncomputable def env7 : Env Try.prog := [s13]
noncomputable def L7 : Loops Try.prog := []
theorem L7_fit : (L7).fit c7 := Loops.fit_nil
noncomputable def law7 (x : (CarT × Unit)) : Option ((Bool × Unit)) := (bif decide ((↑(List.length x.fst.snd.snd.snd.snd.fst) : Int) ≤ 40) then (bif decide ((↑(List.length x.fst.snd.snd.snd.snd.snd.snd.fst) : Int) ≤ 40) then (bif decide ((↑(List.length x.fst.snd.snd.snd.snd.snd.snd.snd.fst) : Int) ≤ 40) then (bif decide ((↑(List.length x.fst.snd.snd.snd.snd.snd.snd.snd.snd.snd.snd.snd.snd.snd.snd.snd.snd.fst) : Int) ≤ 20) then (Option.bind (fn13 (x.fst.snd.snd.snd.snd.snd.fst, ())) fun v0 => some ((v0.fst, ()))) else some ((false, ()))) else some ((false, ()))) else some ((false, ()))) else some ((false, ())))
theorem eq7 (x : Sh.Ts [CarSh]) : codeLaw Try.prog env7 200 (L7) Try.f7 c7 [CarSh] [.bool] x = law7 x := by
  have h : codeLaw Try.prog env7 200 (L7) Try.f7 c7 [CarSh] [.bool] x = (bif decide ((↑(List.length x.fst.snd.snd.snd.snd.fst) : Int) ≤ 40) then (bif decide ((↑(List.length x.fst.snd.snd.snd.snd.snd.snd.fst) : Int) ≤ 40) then (bif decide ((↑(List.length x.fst.snd.snd.snd.snd.snd.snd.snd.fst) : Int) ≤ 40) then (bif decide ((↑(List.length x.fst.snd.snd.snd.snd.snd.snd.snd.snd.snd.snd.snd.snd.snd.snd.snd.snd.fst) : Int) ≤ 20) then (bif decide (List.length x.fst.snd.snd.snd.snd.snd.fst.fst = List.length x.fst.snd.snd.snd.snd.snd.fst.fst) && (decide (List.length x.fst.snd.snd.snd.snd.snd.fst.snd.fst = List.length x.fst.snd.snd.snd.snd.snd.fst.snd.fst) && (decide (List.length x.fst.snd.snd.snd.snd.snd.fst.snd.snd.fst = List.length x.fst.snd.snd.snd.snd.snd.fst.snd.snd.fst) && true)) && true then (Option.bind (fn13 (x.fst.snd.snd.snd.snd.snd.fst, ())) fun v0 => some ((v0.fst, ()))) else none) else some ((false, ()))) else some ((false, ()))) else some ((false, ()))) else some ((false, ()))) := by kernel_rfl
  rw [h]
  unfold law7
  simp only [decide_self, decide_true, Nat.zero_add, Bool.and_true, Bool.true_and, cond_true]
noncomputable def fn7 (x : (CarT × Unit)) : Option ((Bool × Unit)) := law7 x
theorem reads7 : Reads Try.prog 7 [CarSh] [.bool] fn7 := (Reads.of_code mixed (fn := Try.f7) (c := c7) Try.func7 (by kernel_rfl) (by kernel_rfl) env7 200 (L7_fit) (by kernel_rfl)).to (eq7)
noncomputable def s7 : Summ Try.prog := reads7.summ
/- chicane/susp.load -/
noncomputable def c17 : Code := (Try.f17.body.getD .skip)
noncomputable def env17 : Env Try.prog := [s35, s15]
noncomputable def b17o0 : Code := ((kid ((subAt c17 [0, 1, 0, 1, 1]).getD .skip) 0).getD .skip)
noncomputable def kx17o0 : Exit → List Nat | .ret => [4] | .exit 0 => [5] | _ => []
noncomputable def Li17o0 (N0 : Nat) : Loops Try.prog := []
noncomputable def ls17o0 (N0 : Nat) : LSumm Try.prog := loopSumm mixed env17 200 (Li17o0 N0) b17o0 (Loops.fit_nil) [0, 5, 8, 9, 10] kx17o0 (N0)
noncomputable def ln17o0 {β : Type} (N0 : Nat) (n : Nat) (t : List AV) (h : Heap) (K : Exit → List AV → Heap → Option β) : Option β := loopN Try.prog env17 (Sh.nes [.sl (.int .i64)] + 1) 200 (Li17o0 N0) b17o0 [0, 5, 8, 9, 10] kx17o0 n t h K
noncomputable def L17 (N0 : Nat) : Loops Try.prog := [([0, 1, 0, 1, 1], ls17o0 N0)]
theorem L17_fit (N0 : Nat) : (L17 N0).fit c17 := Loops.fit_cons (by kernel_rfl) (Loops.fit_nil)
noncomputable def K17 : Exit → List AV → Heap → Option (Sh.T (MSh) × Sh.Ts [.int .i64]) := fun e t h => outM (P := Try.prog) Try.f17 (MSh) (Sh.nes [.sl (.int .i64)]) [.int .i64] e t h
noncomputable def rk17o0 (N0 : Nat) : Exit → List AV → Heap → Option (Sh.T (MSh) × Sh.Ts [.int .i64]) := (blkK 0 (seqK Try.prog env17 (Sh.nes [.sl (.int .i64)] + 1) 197 (L17 N0) [1, 1, 1] ((subAt c17 [1, 1, 1]).getD .skip) K17))
noncomputable def t17o0 (N0 : Nat) (x : Sh.Ts [(Sh.int IntKind.i64).sl]) (i8 : Int) (i9 : Int) (i10 : Sh.bool.T) : List AV := [AV.ptr 1 0, AV.any, AV.any, AV.any, AV.any, AV.val (Value.int IntKind.i64 i8), AV.any, AV.any, AV.slc 0 0 (List.length x.fst) Cap.low, AV.val (Value.int IntKind.i64 (↑(List.length x.fst) : Int)), AV.val (Value.int IntKind.i64 i9), AV.any, AV.any, AV.any, AV.any, AV.any, AV.any, AV.any, AV.any, AV.any, AV.any]
noncomputable def h17o0 (N0 : Nat) (x : Sh.Ts [(Sh.int IntKind.i64).sl]) (i8 : Int) (i9 : Int) (i10 : Sh.bool.T) : Heap := [Ent.live (Blk.mk (Cells.arr (Sh.int IntKind.i64) x.fst) false none), Ent.live (Blk.mk (Cells.lit [AV.val (Value.bool i10)]) true none)]
noncomputable def tx17o0o0 (N0 : Nat) (x : Sh.Ts [(Sh.int IntKind.i64).sl]) (w13 : Int) (w14 : Sh.bool.T) : List AV := [AV.any, AV.any, AV.any, AV.any, AV.any, AV.val (Value.int IntKind.i64 w13), AV.any, AV.any, AV.any, AV.any, AV.any, AV.any, AV.any, AV.any, AV.any, AV.any, AV.any, AV.any, AV.any, AV.any, AV.any]
noncomputable def hx17o0o0 (N0 : Nat) (x : Sh.Ts [(Sh.int IntKind.i64).sl]) (w13 : Int) (w14 : Sh.bool.T) : Heap := [Ent.live (Blk.mk (Cells.arr (Sh.int IntKind.i64) x.fst) false none), Ent.live (Blk.mk (Cells.lit [AV.val (Value.bool w14)]) true none)]
noncomputable def law17o0 {β : Type} (N0 : Nat) (x : ((List Int) × Unit)) (k0 : Int → Bool → Option β) : Nat → Int → Int → Bool → Option β
  | 0, _, _, _ => none
  | n + 1, i8, i9, i10 => (bif decide (i9 < (↑(List.length x.fst) : Int)) then (bif decide (0 ≤ i9) && decide (i9 < (↑(List.length x.fst) : Int)) then (Option.bind x.fst[i9.toNat]? fun v11 => (Option.bind (fn35 (i10, ()) (i8, v11, ())) fun v12 => law17o0 N0 x k0 n v12.snd.fst (IntKind.i64.wrap (i9 + 1)) v12.fst.fst)) else none) else k0 i8 i10)
theorem leq17o0 {β : Type} (N0 : Nat) (x : Sh.Ts [(Sh.int IntKind.i64).sl]) (K : Exit → List AV → Heap → Option β) : ∀ (n : Nat) (i8 : Int) (i9 : Int) (i10 : Sh.bool.T), ln17o0 N0 n (t17o0 N0 x i8 i9 i10) (h17o0 N0 x i8 i9 i10) K = law17o0 N0 x (fun w13 w14 => K (Exit.exit 0) (tx17o0o0 N0 x w13 w14) (hx17o0o0 N0 x w13 w14)) n i8 i9 i10
  | 0, _, _, _ => rfl
  | n + 1, i8, i9, i10 => by
    have h : ln17o0 N0 (n + 1) (t17o0 N0 x i8 i9 i10) (h17o0 N0 x i8 i9 i10) K = (bif decide (i9 < (↑(List.length x.fst) : Int)) then (bif decide (0 ≤ i9) && decide (i9 < (↑(List.length x.fst) : Int)) then (Option.bind (x.fst[0 + i9.toNat]?) fun v11 => (Option.bind (fn35 (i10, ()) (i8, v11, ())) fun v12 => ln17o0 N0 n (t17o0 N0 x v12.snd.fst (IntKind.i64.wrap (i9 + 1)) v12.fst.fst) (h17o0 N0 x v12.snd.fst (IntKind.i64.wrap (i9 + 1)) v12.fst.fst) K)) else none) else K (Exit.exit 0) (tx17o0o0 N0 x i8 i10) (hx17o0o0 N0 x i8 i10)) := by kernel_rfl
    rw [h]
    simp only [decide_self, decide_true, Nat.zero_add, Bool.and_true, Bool.true_and, cond_true, law17o0, leq17o0 N0 x K n]
theorem rest17o0o0 (N0 : Nat) (x : Sh.Ts [(Sh.int IntKind.i64).sl]) (w15 : Int) (w16 : Sh.bool.T) : rk17o0 N0 (Exit.exit 0) (tx17o0o0 N0 x w15 w16) (hx17o0o0 N0 x w15 w16) = (Option.bind (fn15 (w15, 0, 1125899906842624, ())) fun v17 => some (((w16, ()), v17.fst, ()))) := by kernel_rfl
noncomputable def law17 (N0 : Nat) (m : MT) (x : ((List Int) × Unit)) : Option (MT × (Int × Unit)) := (law17o0 N0 x (fun w15 w16 => (Option.bind (fn15 (w15, 0, 1125899906842624, ())) fun v17 => some (((w16, ()), v17.fst, ())))) N0 0 0 m.fst)
theorem eq17 (N0 : Nat) (m : MSh.T) (x : Sh.Ts [(Sh.int IntKind.i64).sl]) : codeLawM Try.prog env17 200 (L17 N0) Try.f17 c17 (MSh) [.sl (.int .i64)] [.int .i64] m x = law17 N0 m x := by
  have h : codeLawM Try.prog env17 200 (L17 N0) Try.f17 c17 (MSh) [.sl (.int .i64)] [.int .i64] m x = (ln17o0 N0 N0 (t17o0 N0 x 0 0 m.fst) (h17o0 N0 x 0 0 m.fst) (rk17o0 N0)) := by kernel_rfl
  rw [h]
  unfold law17
  simp only [decide_self, decide_true, Nat.zero_add, Bool.and_true, Bool.true_and, cond_true, leq17o0, rest17o0o0]
noncomputable def fn17 (m : MT) (x : ((List Int) × Unit)) : Option (MT × (Int × Unit)) := law17 (10 ^ 30) m x
theorem acts17 : Acts Try.prog 17 (MSh) [.sl (.int .i64)] [.int .i64] fn17 := (Acts.of_code mixed (fn := Try.f17) (c := c17) Try.func17 (by kernel_rfl) (by kernel_rfl) env17 200 (L17_fit _) (by kernel_rfl) (by kernel_rfl)).to (eq17 _)
noncomputable def s17 : Summ Try.prog := acts17.summ (by kernel_rfl)
/- chicane/susp.Force -/
noncomputable def c12 : Code := (Try.f12.body.getD .skip)
noncomputable def env12 : Env Try.prog := [s28, s16, s29, s17]
noncomputable def L12 : Loops Try.prog := []
theorem L12_fit : (L12).fit c12 := Loops.fit_nil
noncomputable def law12 (m : MT) (x : (CarT × Int × Int × Int × Unit)) : Option (MT × (Int × Unit)) := (bif decide (x.snd.fst < 0) then some (((m.fst, ()), 0, ())) else (bif decide (x.snd.fst ≥ 4) then some (((m.fst, ()), 0, ())) else (bif decide (x.snd.snd.fst ≤ 0) then some (((m.fst, ()), 0, ())) else (bif decide (x.snd.fst = (↑0 : Int)) then (Option.bind (fn28 m (x.fst.snd.snd.fst.fst.snd.snd.snd.fst, x.snd.snd.fst, ())) fun v0 => (bif decide (x.snd.snd.fst > x.fst.snd.snd.fst.fst.snd.snd.snd.snd.fst) then (Option.bind (fn16 v0.fst (x.snd.snd.fst, x.fst.snd.snd.fst.fst.snd.snd.snd.snd.fst, ())) fun v1 => (Option.bind (fn28 v1.fst (x.fst.snd.snd.fst.fst.snd.snd.snd.snd.snd.fst, v1.snd)) fun v2 => (Option.bind (fn29 v2.fst (x.fst.snd.snd.snd.snd.fst, x.snd.snd.snd)) fun v3 => (Option.bind (fn17 v3.fst ([v0.snd.fst, v2.snd.fst] ++ [v3.snd.fst], ())) fun v4 => some (((v4.fst.fst, ()), v4.snd.fst, ())))))) else (Option.bind (fn29 v0.fst (x.fst.snd.snd.snd.snd.fst, x.snd.snd.snd)) fun v5 => (Option.bind (fn17 v5.fst ([v0.snd.fst, v5.snd.fst], ())) fun v6 => some (((v6.fst.fst, ()), v6.snd.fst, ())))))) else (bif decide (x.snd.fst = (↑(0 + 1) : Int)) then (Option.bind (fn28 m (x.fst.snd.snd.fst.snd.fst.snd.snd.snd.fst, x.snd.snd.fst, ())) fun v7 => (bif decide (x.snd.snd.fst > x.fst.snd.snd.fst.snd.fst.snd.snd.snd.snd.fst) then (Option.bind (fn16 v7.fst (x.snd.snd.fst, x.fst.snd.snd.fst.snd.fst.snd.snd.snd.snd.fst, ())) fun v8 => (Option.bind (fn28 v8.fst (x.fst.snd.snd.fst.snd.fst.snd.snd.snd.snd.snd.fst, v8.snd)) fun v9 => (Option.bind (fn29 v9.fst (x.fst.snd.snd.snd.snd.fst, x.snd.snd.snd)) fun v10 => (Option.bind (fn17 v10.fst ([v7.snd.fst, v9.snd.fst] ++ [v10.snd.fst], ())) fun v11 => some (((v11.fst.fst, ()), v11.snd.fst, ())))))) else (Option.bind (fn29 v7.fst (x.fst.snd.snd.snd.snd.fst, x.snd.snd.snd)) fun v12 => (Option.bind (fn17 v12.fst ([v7.snd.fst, v12.snd.fst], ())) fun v13 => some (((v13.fst.fst, ()), v13.snd.fst, ())))))) else (bif decide (x.snd.fst = (↑(0 + 1 + 1) : Int)) then (Option.bind (fn28 m (x.fst.snd.snd.fst.snd.snd.fst.snd.snd.snd.fst, x.snd.snd.fst, ())) fun v14 => (bif decide (x.snd.snd.fst > x.fst.snd.snd.fst.snd.snd.fst.snd.snd.snd.snd.fst) then (Option.bind (fn16 v14.fst (x.snd.snd.fst, x.fst.snd.snd.fst.snd.snd.fst.snd.snd.snd.snd.fst, ())) fun v15 => (Option.bind (fn28 v15.fst (x.fst.snd.snd.fst.snd.snd.fst.snd.snd.snd.snd.snd.fst, v15.snd)) fun v16 => (Option.bind (fn29 v16.fst (x.fst.snd.snd.snd.snd.fst, x.snd.snd.snd)) fun v17 => (Option.bind (fn17 v17.fst ([v14.snd.fst, v16.snd.fst] ++ [v17.snd.fst], ())) fun v18 => some (((v18.fst.fst, ()), v18.snd.fst, ())))))) else (Option.bind (fn29 v14.fst (x.fst.snd.snd.snd.snd.fst, x.snd.snd.snd)) fun v19 => (Option.bind (fn17 v19.fst ([v14.snd.fst, v19.snd.fst], ())) fun v20 => some (((v20.fst.fst, ()), v20.snd.fst, ())))))) else (bif decide (x.snd.fst = (↑(0 + 1 + 1 + 1) : Int)) then (Option.bind (fn28 m (x.fst.snd.snd.fst.snd.snd.snd.fst.snd.snd.snd.fst, x.snd.snd.fst, ())) fun v21 => (bif decide (x.snd.snd.fst > x.fst.snd.snd.fst.snd.snd.snd.fst.snd.snd.snd.snd.fst) then (Option.bind (fn16 v21.fst (x.snd.snd.fst, x.fst.snd.snd.fst.snd.snd.snd.fst.snd.snd.snd.snd.fst, ())) fun v22 => (Option.bind (fn28 v22.fst (x.fst.snd.snd.fst.snd.snd.snd.fst.snd.snd.snd.snd.snd.fst, v22.snd)) fun v23 => (Option.bind (fn29 v23.fst (x.fst.snd.snd.snd.snd.fst, x.snd.snd.snd)) fun v24 => (Option.bind (fn17 v24.fst ([v21.snd.fst, v23.snd.fst] ++ [v24.snd.fst], ())) fun v25 => some (((v25.fst.fst, ()), v25.snd.fst, ())))))) else (Option.bind (fn29 v21.fst (x.fst.snd.snd.snd.snd.fst, x.snd.snd.snd)) fun v26 => (Option.bind (fn17 v26.fst ([v21.snd.fst, v26.snd.fst], ())) fun v27 => some (((v27.fst.fst, ()), v27.snd.fst, ())))))) else none)))))))
theorem eq12 (m : MSh.T) (x : Sh.Ts [CarSh, Sh.int IntKind.i64, Sh.int IntKind.i64, Sh.int IntKind.i64]) : codeLawM Try.prog env12 200 (L12) Try.f12 c12 (MSh) [CarSh, .int .i64, .int .i64, .int .i64] [.int .i64] m x = law12 m x := by
  have h : codeLawM Try.prog env12 200 (L12) Try.f12 c12 (MSh) [CarSh, .int .i64, .int .i64, .int .i64] [.int .i64] m x = (bif decide (x.snd.fst < 0) then some (((m.fst, ()), 0, ())) else (bif decide (x.snd.fst ≥ 4) then some (((m.fst, ()), 0, ())) else (bif decide (x.snd.snd.fst ≤ 0) then some (((m.fst, ()), 0, ())) else (bif decide (x.snd.fst = (↑0 : Int)) then (Option.bind (fn28 m (x.fst.snd.snd.fst.fst.snd.snd.snd.fst, x.snd.snd.fst, ())) fun v0 => (bif decide (x.snd.snd.fst > x.fst.snd.snd.fst.fst.snd.snd.snd.snd.fst) then (Option.bind (fn16 v0.fst (x.snd.snd.fst, x.fst.snd.snd.fst.fst.snd.snd.snd.snd.fst, ())) fun v1 => (Option.bind (fn28 v1.fst (x.fst.snd.snd.fst.fst.snd.snd.snd.snd.snd.fst, v1.snd)) fun v2 => (bif decide (List.length x.fst.snd.snd.snd.snd.fst = List.length x.fst.snd.snd.snd.snd.fst) && true then (Option.bind (fn29 v2.fst (x.fst.snd.snd.snd.snd.fst, x.snd.snd.snd)) fun v3 => (Option.bind (fn17 v3.fst ([v0.snd.fst, v2.snd.fst] ++ [v3.snd.fst], ())) fun v4 => some (((v4.fst.fst, ()), v4.snd.fst, ())))) else none))) else (bif decide (List.length x.fst.snd.snd.snd.snd.fst = List.length x.fst.snd.snd.snd.snd.fst) && true then (Option.bind (fn29 v0.fst (x.fst.snd.snd.snd.snd.fst, x.snd.snd.snd)) fun v5 => (Option.bind (fn17 v5.fst ([v0.snd.fst, v5.snd.fst], ())) fun v6 => some (((v6.fst.fst, ()), v6.snd.fst, ())))) else none))) else (bif decide (x.snd.fst = (↑(0 + 1) : Int)) then (Option.bind (fn28 m (x.fst.snd.snd.fst.snd.fst.snd.snd.snd.fst, x.snd.snd.fst, ())) fun v7 => (bif decide (x.snd.snd.fst > x.fst.snd.snd.fst.snd.fst.snd.snd.snd.snd.fst) then (Option.bind (fn16 v7.fst (x.snd.snd.fst, x.fst.snd.snd.fst.snd.fst.snd.snd.snd.snd.fst, ())) fun v8 => (Option.bind (fn28 v8.fst (x.fst.snd.snd.fst.snd.fst.snd.snd.snd.snd.snd.fst, v8.snd)) fun v9 => (bif decide (List.length x.fst.snd.snd.snd.snd.fst = List.length x.fst.snd.snd.snd.snd.fst) && true then (Option.bind (fn29 v9.fst (x.fst.snd.snd.snd.snd.fst, x.snd.snd.snd)) fun v10 => (Option.bind (fn17 v10.fst ([v7.snd.fst, v9.snd.fst] ++ [v10.snd.fst], ())) fun v11 => some (((v11.fst.fst, ()), v11.snd.fst, ())))) else none))) else (bif decide (List.length x.fst.snd.snd.snd.snd.fst = List.length x.fst.snd.snd.snd.snd.fst) && true then (Option.bind (fn29 v7.fst (x.fst.snd.snd.snd.snd.fst, x.snd.snd.snd)) fun v12 => (Option.bind (fn17 v12.fst ([v7.snd.fst, v12.snd.fst], ())) fun v13 => some (((v13.fst.fst, ()), v13.snd.fst, ())))) else none))) else (bif decide (x.snd.fst = (↑(0 + 1 + 1) : Int)) then (Option.bind (fn28 m (x.fst.snd.snd.fst.snd.snd.fst.snd.snd.snd.fst, x.snd.snd.fst, ())) fun v14 => (bif decide (x.snd.snd.fst > x.fst.snd.snd.fst.snd.snd.fst.snd.snd.snd.snd.fst) then (Option.bind (fn16 v14.fst (x.snd.snd.fst, x.fst.snd.snd.fst.snd.snd.fst.snd.snd.snd.snd.fst, ())) fun v15 => (Option.bind (fn28 v15.fst (x.fst.snd.snd.fst.snd.snd.fst.snd.snd.snd.snd.snd.fst, v15.snd)) fun v16 => (bif decide (List.length x.fst.snd.snd.snd.snd.fst = List.length x.fst.snd.snd.snd.snd.fst) && true then (Option.bind (fn29 v16.fst (x.fst.snd.snd.snd.snd.fst, x.snd.snd.snd)) fun v17 => (Option.bind (fn17 v17.fst ([v14.snd.fst, v16.snd.fst] ++ [v17.snd.fst], ())) fun v18 => some (((v18.fst.fst, ()), v18.snd.fst, ())))) else none))) else (bif decide (List.length x.fst.snd.snd.snd.snd.fst = List.length x.fst.snd.snd.snd.snd.fst) && true then (Option.bind (fn29 v14.fst (x.fst.snd.snd.snd.snd.fst, x.snd.snd.snd)) fun v19 => (Option.bind (fn17 v19.fst ([v14.snd.fst, v19.snd.fst], ())) fun v20 => some (((v20.fst.fst, ()), v20.snd.fst, ())))) else none))) else (bif decide (x.snd.fst = (↑(0 + 1 + 1 + 1) : Int)) then (Option.bind (fn28 m (x.fst.snd.snd.fst.snd.snd.snd.fst.snd.snd.snd.fst, x.snd.snd.fst, ())) fun v21 => (bif decide (x.snd.snd.fst > x.fst.snd.snd.fst.snd.snd.snd.fst.snd.snd.snd.snd.fst) then (Option.bind (fn16 v21.fst (x.snd.snd.fst, x.fst.snd.snd.fst.snd.snd.snd.fst.snd.snd.snd.snd.fst, ())) fun v22 => (Option.bind (fn28 v22.fst (x.fst.snd.snd.fst.snd.snd.snd.fst.snd.snd.snd.snd.snd.fst, v22.snd)) fun v23 => (bif decide (List.length x.fst.snd.snd.snd.snd.fst = List.length x.fst.snd.snd.snd.snd.fst) && true then (Option.bind (fn29 v23.fst (x.fst.snd.snd.snd.snd.fst, x.snd.snd.snd)) fun v24 => (Option.bind (fn17 v24.fst ([v21.snd.fst, v23.snd.fst] ++ [v24.snd.fst], ())) fun v25 => some (((v25.fst.fst, ()), v25.snd.fst, ())))) else none))) else (bif decide (List.length x.fst.snd.snd.snd.snd.fst = List.length x.fst.snd.snd.snd.snd.fst) && true then (Option.bind (fn29 v21.fst (x.fst.snd.snd.snd.snd.fst, x.snd.snd.snd)) fun v26 => (Option.bind (fn17 v26.fst ([v21.snd.fst, v26.snd.fst], ())) fun v27 => some (((v27.fst.fst, ()), v27.snd.fst, ())))) else none))) else none))))))) := by kernel_rfl
  rw [h]
  unfold law12
  simp only [decide_self, decide_true, Nat.zero_add, Bool.and_true, Bool.true_and, cond_true]
noncomputable def fn12 (m : MT) (x : (CarT × Int × Int × Int × Unit)) : Option (MT × (Int × Unit)) := law12 m x
theorem acts12 : Acts Try.prog 12 (MSh) [CarSh, .int .i64, .int .i64, .int .i64] [.int .i64] fn12 := (Acts.of_code mixed (fn := Try.f12) (c := c12) Try.func12 (by kernel_rfl) (by kernel_rfl) env12 200 (L12_fit) (by kernel_rfl) (by kernel_rfl)).to (eq12)
noncomputable def s12 : Summ Try.prog := acts12.summ (by kernel_rfl)
/- chicane/susp.Bar -/
noncomputable def c14 : Code := (Try.f14.body.getD .skip)
noncomputable def env14 : Env Try.prog := [s16, s28]
noncomputable def L14 : Loops Try.prog := []
theorem L14_fit : (L14).fit c14 := Loops.fit_nil
noncomputable def law14 (m : MT) (x : (CarT × Int × Int × Int × Unit)) : Option (MT × (Int × Unit)) := (bif decide (x.snd.fst < 0) then some (((m.fst, ()), 0, ())) else (bif decide (x.snd.fst ≥ 2) then some (((m.fst, ()), 0, ())) else (bif decide (x.snd.fst = (↑0 : Int)) then (Option.bind (fn16 m x.snd.snd) fun v0 => (Option.bind (fn28 v0.fst (x.fst.snd.snd.snd.fst.fst, v0.snd)) fun v1 => some (((v1.fst.fst, ()), v1.snd.fst, ())))) else (bif decide (x.snd.fst = (↑(0 + 1) : Int)) then (Option.bind (fn16 m x.snd.snd) fun v2 => (Option.bind (fn28 v2.fst (x.fst.snd.snd.snd.fst.snd.fst, v2.snd)) fun v3 => some (((v3.fst.fst, ()), v3.snd.fst, ())))) else none))))
theorem eq14 (m : MSh.T) (x : Sh.Ts [CarSh, Sh.int IntKind.i64, Sh.int IntKind.i64, Sh.int IntKind.i64]) : codeLawM Try.prog env14 200 (L14) Try.f14 c14 (MSh) [CarSh, .int .i64, .int .i64, .int .i64] [.int .i64] m x = law14 m x := by kernel_rfl
noncomputable def fn14 (m : MT) (x : (CarT × Int × Int × Int × Unit)) : Option (MT × (Int × Unit)) := law14 m x
theorem acts14 : Acts Try.prog 14 (MSh) [CarSh, .int .i64, .int .i64, .int .i64] [.int .i64] fn14 := (Acts.of_code mixed (fn := Try.f14) (c := c14) Try.func14 (by kernel_rfl) (by kernel_rfl) env14 200 (L14_fit) (by kernel_rfl) (by kernel_rfl)).to (eq14)
noncomputable def s14 : Summ Try.prog := acts14.summ (by kernel_rfl)
/- chicane/chicaneref25.Bar -/
noncomputable def c18 : Code := (Try.f18.body.getD .skip)
noncomputable def env18 : Env Try.prog := [s21, s36]
noncomputable def L18 : Loops Try.prog := []
theorem L18_fit : (L18).fit c18 := Loops.fit_nil
noncomputable def law18 (m : Mx1T) (x : (CarT × Int × Int × Int × Unit)) : Option (Mx1T × (Int × Unit)) := (bif decide (x.snd.fst < 0) then some (((m.fst, ()), 0, ())) else (bif decide (x.snd.fst > 1) then some (((m.fst, ()), 0, ())) else (bif decide (x.snd.fst = (↑0 : Int)) then (Option.bind (fn21 m x.snd.snd) fun v0 => (Option.bind (fn36 v0.fst (x.fst.snd.snd.snd.fst.fst, v0.snd)) fun v1 => some (((v1.fst.fst, ()), v1.snd.fst, ())))) else (bif decide (x.snd.fst = (↑(0 + 1) : Int)) then (Option.bind (fn21 m x.snd.snd) fun v2 => (Option.bind (fn36 v2.fst (x.fst.snd.snd.snd.fst.snd.fst, v2.snd)) fun v3 => some (((v3.fst.fst, ()), v3.snd.fst, ())))) else none))))
theorem eq18 (m : Mx1Sh.T) (x : Sh.Ts [CarSh, Sh.int IntKind.i64, Sh.int IntKind.i64, Sh.int IntKind.i64]) : codeLawM Try.prog env18 200 (L18) Try.f18 c18 (Mx1Sh) [CarSh, .int .i64, .int .i64, .int .i64] [.int .i64] m x = law18 m x := by kernel_rfl
noncomputable def fn18 (m : Mx1T) (x : (CarT × Int × Int × Int × Unit)) : Option (Mx1T × (Int × Unit)) := law18 m x
theorem acts18 : Acts Try.prog 18 (Mx1Sh) [CarSh, .int .i64, .int .i64, .int .i64] [.int .i64] fn18 := (Acts.of_code mixed (fn := Try.f18) (c := c18) Try.func18 (by kernel_rfl) (by kernel_rfl) env18 200 (L18_fit) (by kernel_rfl) (by kernel_rfl)).to (eq18)
noncomputable def s18 : Summ Try.prog := acts18.summ (by kernel_rfl)
/- chicane/chicaneref25.Force -/
noncomputable def c19 : Code := (Try.f19.body.getD .skip)
noncomputable def env19 : Env Try.prog := [s36, s21, s20, s37, s22]
noncomputable def L19 : Loops Try.prog := []
theorem L19_fit : (L19).fit c19 := Loops.fit_nil
noncomputable def law19 (m : Mx1T) (x : (CarT × Int × Int × Int × Unit)) : Option (Mx1T × (Int × Unit)) := (bif decide (x.snd.fst < 0) then some (((m.fst, ()), 0, ())) else (bif decide (x.snd.fst > 3) then some (((m.fst, ()), 0, ())) else (bif decide (x.snd.snd.fst ≤ 0) then some (((m.fst, ()), 0, ())) else (bif decide (x.snd.fst = (↑0 : Int)) then (Option.bind (fn36 m (x.fst.snd.snd.fst.fst.snd.snd.snd.fst, x.snd.snd.fst, ())) fun v0 => (bif decide (x.snd.snd.fst > x.fst.snd.snd.fst.fst.snd.snd.snd.snd.fst) then (Option.bind (fn21 v0.fst (x.snd.snd.fst, x.fst.snd.snd.fst.fst.snd.snd.snd.snd.fst, ())) fun v1 => (Option.bind (fn36 v1.fst (x.fst.snd.snd.fst.fst.snd.snd.snd.snd.snd.fst, v1.snd)) fun v2 => (Option.bind (fn20 v2.fst (v0.snd.fst, v2.snd)) fun v3 => (Option.bind (fn37 v3.fst (x.fst.snd.snd.snd.snd.fst, x.snd.snd.snd)) fun v4 => (Option.bind (fn20 v4.fst (v3.snd.fst, v4.snd)) fun v5 => (Option.bind (fn22 (v5.snd.fst, 0, 1125899906842624, ())) fun v6 => some (((v5.fst.fst, ()), v6.fst, ())))))))) else (Option.bind (fn37 v0.fst (x.fst.snd.snd.snd.snd.fst, x.snd.snd.snd)) fun v7 => (Option.bind (fn20 v7.fst (v0.snd.fst, v7.snd)) fun v8 => (Option.bind (fn22 (v8.snd.fst, 0, 1125899906842624, ())) fun v9 => some (((v8.fst.fst, ()), v9.fst, ()))))))) else (bif decide (x.snd.fst = (↑(0 + 1) : Int)) then (Option.bind (fn36 m (x.fst.snd.snd.fst.snd.fst.snd.snd.snd.fst, x.snd.snd.fst, ())) fun v10 => (bif decide (x.snd.snd.fst > x.fst.snd.snd.fst.snd.fst.snd.snd.snd.snd.fst) then (Option.bind (fn21 v10.fst (x.snd.snd.fst, x.fst.snd.snd.fst.snd.fst.snd.snd.snd.snd.fst, ())) fun v11 => (Option.bind (fn36 v11.fst (x.fst.snd.snd.fst.snd.fst.snd.snd.snd.snd.snd.fst, v11.snd)) fun v12 => (Option.bind (fn20 v12.fst (v10.snd.fst, v12.snd)) fun v13 => (Option.bind (fn37 v13.fst (x.fst.snd.snd.snd.snd.fst, x.snd.snd.snd)) fun v14 => (Option.bind (fn20 v14.fst (v13.snd.fst, v14.snd)) fun v15 => (Option.bind (fn22 (v15.snd.fst, 0, 1125899906842624, ())) fun v16 => some (((v15.fst.fst, ()), v16.fst, ())))))))) else (Option.bind (fn37 v10.fst (x.fst.snd.snd.snd.snd.fst, x.snd.snd.snd)) fun v17 => (Option.bind (fn20 v17.fst (v10.snd.fst, v17.snd)) fun v18 => (Option.bind (fn22 (v18.snd.fst, 0, 1125899906842624, ())) fun v19 => some (((v18.fst.fst, ()), v19.fst, ()))))))) else (bif decide (x.snd.fst = (↑(0 + 1 + 1) : Int)) then (Option.bind (fn36 m (x.fst.snd.snd.fst.snd.snd.fst.snd.snd.snd.fst, x.snd.snd.fst, ())) fun v20 => (bif decide (x.snd.snd.fst > x.fst.snd.snd.fst.snd.snd.fst.snd.snd.snd.snd.fst) then (Option.bind (fn21 v20.fst (x.snd.snd.fst, x.fst.snd.snd.fst.snd.snd.fst.snd.snd.snd.snd.fst, ())) fun v21 => (Option.bind (fn36 v21.fst (x.fst.snd.snd.fst.snd.snd.fst.snd.snd.snd.snd.snd.fst, v21.snd)) fun v22 => (Option.bind (fn20 v22.fst (v20.snd.fst, v22.snd)) fun v23 => (Option.bind (fn37 v23.fst (x.fst.snd.snd.snd.snd.fst, x.snd.snd.snd)) fun v24 => (Option.bind (fn20 v24.fst (v23.snd.fst, v24.snd)) fun v25 => (Option.bind (fn22 (v25.snd.fst, 0, 1125899906842624, ())) fun v26 => some (((v25.fst.fst, ()), v26.fst, ())))))))) else (Option.bind (fn37 v20.fst (x.fst.snd.snd.snd.snd.fst, x.snd.snd.snd)) fun v27 => (Option.bind (fn20 v27.fst (v20.snd.fst, v27.snd)) fun v28 => (Option.bind (fn22 (v28.snd.fst, 0, 1125899906842624, ())) fun v29 => some (((v28.fst.fst, ()), v29.fst, ()))))))) else (bif decide (x.snd.fst = (↑(0 + 1 + 1 + 1) : Int)) then (Option.bind (fn36 m (x.fst.snd.snd.fst.snd.snd.snd.fst.snd.snd.snd.fst, x.snd.snd.fst, ())) fun v30 => (bif decide (x.snd.snd.fst > x.fst.snd.snd.fst.snd.snd.snd.fst.snd.snd.snd.snd.fst) then (Option.bind (fn21 v30.fst (x.snd.snd.fst, x.fst.snd.snd.fst.snd.snd.snd.fst.snd.snd.snd.snd.fst, ())) fun v31 => (Option.bind (fn36 v31.fst (x.fst.snd.snd.fst.snd.snd.snd.fst.snd.snd.snd.snd.snd.fst, v31.snd)) fun v32 => (Option.bind (fn20 v32.fst (v30.snd.fst, v32.snd)) fun v33 => (Option.bind (fn37 v33.fst (x.fst.snd.snd.snd.snd.fst, x.snd.snd.snd)) fun v34 => (Option.bind (fn20 v34.fst (v33.snd.fst, v34.snd)) fun v35 => (Option.bind (fn22 (v35.snd.fst, 0, 1125899906842624, ())) fun v36 => some (((v35.fst.fst, ()), v36.fst, ())))))))) else (Option.bind (fn37 v30.fst (x.fst.snd.snd.snd.snd.fst, x.snd.snd.snd)) fun v37 => (Option.bind (fn20 v37.fst (v30.snd.fst, v37.snd)) fun v38 => (Option.bind (fn22 (v38.snd.fst, 0, 1125899906842624, ())) fun v39 => some (((v38.fst.fst, ()), v39.fst, ()))))))) else none)))))))
theorem eq19 (m : Mx1Sh.T) (x : Sh.Ts [CarSh, Sh.int IntKind.i64, Sh.int IntKind.i64, Sh.int IntKind.i64]) : codeLawM Try.prog env19 200 (L19) Try.f19 c19 (Mx1Sh) [CarSh, .int .i64, .int .i64, .int .i64] [.int .i64] m x = law19 m x := by
  have h : codeLawM Try.prog env19 200 (L19) Try.f19 c19 (Mx1Sh) [CarSh, .int .i64, .int .i64, .int .i64] [.int .i64] m x = (bif decide (x.snd.fst < 0) then some (((m.fst, ()), 0, ())) else (bif decide (x.snd.fst > 3) then some (((m.fst, ()), 0, ())) else (bif decide (x.snd.snd.fst ≤ 0) then some (((m.fst, ()), 0, ())) else (bif decide (x.snd.fst = (↑0 : Int)) then (Option.bind (fn36 m (x.fst.snd.snd.fst.fst.snd.snd.snd.fst, x.snd.snd.fst, ())) fun v0 => (bif decide (x.snd.snd.fst > x.fst.snd.snd.fst.fst.snd.snd.snd.snd.fst) then (Option.bind (fn21 v0.fst (x.snd.snd.fst, x.fst.snd.snd.fst.fst.snd.snd.snd.snd.fst, ())) fun v1 => (Option.bind (fn36 v1.fst (x.fst.snd.snd.fst.fst.snd.snd.snd.snd.snd.fst, v1.snd)) fun v2 => (Option.bind (fn20 v2.fst (v0.snd.fst, v2.snd)) fun v3 => (bif decide (List.length x.fst.snd.snd.snd.snd.fst = List.length x.fst.snd.snd.snd.snd.fst) && true then (Option.bind (fn37 v3.fst (x.fst.snd.snd.snd.snd.fst, x.snd.snd.snd)) fun v4 => (Option.bind (fn20 v4.fst (v3.snd.fst, v4.snd)) fun v5 => (Option.bind (fn22 (v5.snd.fst, 0, 1125899906842624, ())) fun v6 => some (((v5.fst.fst, ()), v6.fst, ()))))) else none)))) else (bif decide (List.length x.fst.snd.snd.snd.snd.fst = List.length x.fst.snd.snd.snd.snd.fst) && true then (Option.bind (fn37 v0.fst (x.fst.snd.snd.snd.snd.fst, x.snd.snd.snd)) fun v7 => (Option.bind (fn20 v7.fst (v0.snd.fst, v7.snd)) fun v8 => (Option.bind (fn22 (v8.snd.fst, 0, 1125899906842624, ())) fun v9 => some (((v8.fst.fst, ()), v9.fst, ()))))) else none))) else (bif decide (x.snd.fst = (↑(0 + 1) : Int)) then (Option.bind (fn36 m (x.fst.snd.snd.fst.snd.fst.snd.snd.snd.fst, x.snd.snd.fst, ())) fun v10 => (bif decide (x.snd.snd.fst > x.fst.snd.snd.fst.snd.fst.snd.snd.snd.snd.fst) then (Option.bind (fn21 v10.fst (x.snd.snd.fst, x.fst.snd.snd.fst.snd.fst.snd.snd.snd.snd.fst, ())) fun v11 => (Option.bind (fn36 v11.fst (x.fst.snd.snd.fst.snd.fst.snd.snd.snd.snd.snd.fst, v11.snd)) fun v12 => (Option.bind (fn20 v12.fst (v10.snd.fst, v12.snd)) fun v13 => (bif decide (List.length x.fst.snd.snd.snd.snd.fst = List.length x.fst.snd.snd.snd.snd.fst) && true then (Option.bind (fn37 v13.fst (x.fst.snd.snd.snd.snd.fst, x.snd.snd.snd)) fun v14 => (Option.bind (fn20 v14.fst (v13.snd.fst, v14.snd)) fun v15 => (Option.bind (fn22 (v15.snd.fst, 0, 1125899906842624, ())) fun v16 => some (((v15.fst.fst, ()), v16.fst, ()))))) else none)))) else (bif decide (List.length x.fst.snd.snd.snd.snd.fst = List.length x.fst.snd.snd.snd.snd.fst) && true then (Option.bind (fn37 v10.fst (x.fst.snd.snd.snd.snd.fst, x.snd.snd.snd)) fun v17 => (Option.bind (fn20 v17.fst (v10.snd.fst, v17.snd)) fun v18 => (Option.bind (fn22 (v18.snd.fst, 0, 1125899906842624, ())) fun v19 => some (((v18.fst.fst, ()), v19.fst, ()))))) else none))) else (bif decide (x.snd.fst = (↑(0 + 1 + 1) : Int)) then (Option.bind (fn36 m (x.fst.snd.snd.fst.snd.snd.fst.snd.snd.snd.fst, x.snd.snd.fst, ())) fun v20 => (bif decide (x.snd.snd.fst > x.fst.snd.snd.fst.snd.snd.fst.snd.snd.snd.snd.fst) then (Option.bind (fn21 v20.fst (x.snd.snd.fst, x.fst.snd.snd.fst.snd.snd.fst.snd.snd.snd.snd.fst, ())) fun v21 => (Option.bind (fn36 v21.fst (x.fst.snd.snd.fst.snd.snd.fst.snd.snd.snd.snd.snd.fst, v21.snd)) fun v22 => (Option.bind (fn20 v22.fst (v20.snd.fst, v22.snd)) fun v23 => (bif decide (List.length x.fst.snd.snd.snd.snd.fst = List.length x.fst.snd.snd.snd.snd.fst) && true then (Option.bind (fn37 v23.fst (x.fst.snd.snd.snd.snd.fst, x.snd.snd.snd)) fun v24 => (Option.bind (fn20 v24.fst (v23.snd.fst, v24.snd)) fun v25 => (Option.bind (fn22 (v25.snd.fst, 0, 1125899906842624, ())) fun v26 => some (((v25.fst.fst, ()), v26.fst, ()))))) else none)))) else (bif decide (List.length x.fst.snd.snd.snd.snd.fst = List.length x.fst.snd.snd.snd.snd.fst) && true then (Option.bind (fn37 v20.fst (x.fst.snd.snd.snd.snd.fst, x.snd.snd.snd)) fun v27 => (Option.bind (fn20 v27.fst (v20.snd.fst, v27.snd)) fun v28 => (Option.bind (fn22 (v28.snd.fst, 0, 1125899906842624, ())) fun v29 => some (((v28.fst.fst, ()), v29.fst, ()))))) else none))) else (bif decide (x.snd.fst = (↑(0 + 1 + 1 + 1) : Int)) then (Option.bind (fn36 m (x.fst.snd.snd.fst.snd.snd.snd.fst.snd.snd.snd.fst, x.snd.snd.fst, ())) fun v30 => (bif decide (x.snd.snd.fst > x.fst.snd.snd.fst.snd.snd.snd.fst.snd.snd.snd.snd.fst) then (Option.bind (fn21 v30.fst (x.snd.snd.fst, x.fst.snd.snd.fst.snd.snd.snd.fst.snd.snd.snd.snd.fst, ())) fun v31 => (Option.bind (fn36 v31.fst (x.fst.snd.snd.fst.snd.snd.snd.fst.snd.snd.snd.snd.snd.fst, v31.snd)) fun v32 => (Option.bind (fn20 v32.fst (v30.snd.fst, v32.snd)) fun v33 => (bif decide (List.length x.fst.snd.snd.snd.snd.fst = List.length x.fst.snd.snd.snd.snd.fst) && true then (Option.bind (fn37 v33.fst (x.fst.snd.snd.snd.snd.fst, x.snd.snd.snd)) fun v34 => (Option.bind (fn20 v34.fst (v33.snd.fst, v34.snd)) fun v35 => (Option.bind (fn22 (v35.snd.fst, 0, 1125899906842624, ())) fun v36 => some (((v35.fst.fst, ()), v36.fst, ()))))) else none)))) else (bif decide (List.length x.fst.snd.snd.snd.snd.fst = List.length x.fst.snd.snd.snd.snd.fst) && true then (Option.bind (fn37 v30.fst (x.fst.snd.snd.snd.snd.fst, x.snd.snd.snd)) fun v37 => (Option.bind (fn20 v37.fst (v30.snd.fst, v37.snd)) fun v38 => (Option.bind (fn22 (v38.snd.fst, 0, 1125899906842624, ())) fun v39 => some (((v38.fst.fst, ()), v39.fst, ()))))) else none))) else none))))))) := by kernel_rfl
  rw [h]
  unfold law19
  simp only [decide_self, decide_true, Nat.zero_add, Bool.and_true, Bool.true_and, cond_true]
noncomputable def fn19 (m : Mx1T) (x : (CarT × Int × Int × Int × Unit)) : Option (Mx1T × (Int × Unit)) := law19 m x
theorem acts19 : Acts Try.prog 19 (Mx1Sh) [CarSh, .int .i64, .int .i64, .int .i64] [.int .i64] fn19 := (Acts.of_code mixed (fn := Try.f19) (c := c19) Try.func19 (by kernel_rfl) (by kernel_rfl) env19 200 (L19_fit) (by kernel_rfl) (by kernel_rfl)).to (eq19)
noncomputable def s19 : Summ Try.prog := acts19.summ (by kernel_rfl)
end Go.Proofs.Ytpdimjdecjhbcaa
