/- What functions of this program tell of their arguments: for each a law, and that the function keeps to it. -/
import Derived.Test.YthlfckhjhagfaaaLawsa
set_option linter.unusedVariables false
set_option linter.unusedSimpArgs false
set_option maxRecDepth 100000
namespace Go.Proofs.Ythlfckhjhagfaaa
open Go Go.Ab Go.Proofs
/- slices.IsSortedFunc[[]chicane/api.Fx,chicane/api.Fx] -/
noncomputable def c81x82 : Code := (Try.f81.body.getD .skip)
noncomputable def env81x82 : Env Try.prog := ⟨[s82], none⟩
noncomputable def b81x82_0 : Code := ((kid ((subAt c81x82 [0, 1, 0, 1]).getD .skip) 0).getD .skip)
noncomputable def kx81x82_0 : Exit → List Nat | .ret => [4] | _ => []
noncomputable def Li81x82_0 (N0 : Nat) : Loops Try.prog := []
noncomputable def ls81x82_0 (N0 : Nat) : LSumm Try.prog := loopSumm mixed env81x82 200 (Li81x82_0 N0) b81x82_0 (Loops.fit_nil) [0, 1, 5] kx81x82_0 (N0)
noncomputable def ln81x82_0 {β : Type} (N0 : Nat) (n : Nat) (t : List AV) (h : Heap) (K : Exit → List AV → Heap → Option β) : Option β := loopN Try.prog env81x82 (Sh.nes [.sl (.int .i64)] + Sh.nes [] + List.length (α := Sh) []) 200 (Li81x82_0 N0) b81x82_0 [0, 1, 5] kx81x82_0 n t h K
noncomputable def L81x82 (N0 : Nat) : Loops Try.prog := [([0, 1, 0, 1], ls81x82_0 N0)]
theorem L81x82_fit (N0 : Nat) : (L81x82 N0).fit c81x82 := Loops.fit_cons (by kernel_rfl) (Loops.fit_nil)
noncomputable def K81x82 : Exit → List AV → Heap → Option (Sh.Ts [.bool]) := fun e t h => outK (P := Try.prog) Try.f81 [.bool] e t h
noncomputable def rk81x82_0 (N0 : Nat) : Exit → List AV → Heap → Option (Sh.Ts [.bool]) := (blkK 0 (seqK Try.prog env81x82 (Sh.nes [.sl (.int .i64)] + Sh.nes [] + List.length (α := Sh) []) 198 (L81x82 N0) [1, 1] ((subAt c81x82 [1, 1]).getD .skip) K81x82))
noncomputable def t81x82_0 (N0 : Nat) (x : Sh.Ts [(Sh.int IntKind.i64).sl]) (i6 : Int) : List AV := [AV.slc 0 0 (List.length x.fst) Cap.low, AV.fn (Fn.func 82) [] [], AV.any, AV.any, AV.any, AV.val (Value.int IntKind.i64 i6), AV.any, AV.any, AV.any, AV.any, AV.any, AV.any, AV.any, AV.any, AV.any, AV.any, AV.any, AV.any, AV.any, AV.any, AV.any, AV.any, AV.any, AV.any, AV.any]
noncomputable def h81x82_0 (N0 : Nat) (x : Sh.Ts [(Sh.int IntKind.i64).sl]) (i6 : Int) : Heap := [Ent.live (Blk.mk (Cells.arr (Sh.int IntKind.i64) x.fst) false none)]
noncomputable def tx81x82_0_0 (N0 : Nat) (x : Sh.Ts [(Sh.int IntKind.i64).sl]) : List AV := [AV.any, AV.any, AV.any, AV.any, AV.val (Value.bool false), AV.any, AV.any, AV.any, AV.any, AV.any, AV.any, AV.any, AV.any, AV.any, AV.any, AV.any, AV.any, AV.any, AV.any, AV.any, AV.any, AV.any, AV.any, AV.any, AV.any]
noncomputable def hx81x82_0_0 (N0 : Nat) (x : Sh.Ts [(Sh.int IntKind.i64).sl]) : Heap := [Ent.live (Blk.mk (Cells.arr (Sh.int IntKind.i64) x.fst) false none)]
noncomputable def tx81x82_0_1 (N0 : Nat) (x : Sh.Ts [(Sh.int IntKind.i64).sl]) : List AV := [AV.any, AV.any, AV.any, AV.any, AV.any, AV.any, AV.any, AV.any, AV.any, AV.any, AV.any, AV.any, AV.any, AV.any, AV.any, AV.any, AV.any, AV.any, AV.any, AV.any, AV.any, AV.any, AV.any, AV.any, AV.any]
noncomputable def hx81x82_0_1 (N0 : Nat) (x : Sh.Ts [(Sh.int IntKind.i64).sl]) : Heap := [Ent.live (Blk.mk (Cells.arr (Sh.int IntKind.i64) x.fst) false none)]
noncomputable def law81x82_0 {β : Type} (N0 : Nat) (x : ((List Int) × Unit)) (k0 : Option β) (k1 : Option β) : Nat → Int → Option β
  | 0, _ => none
  | n + 1, i6 => (bif decide (i6 > 0) then (bif decide (0 ≤ i6) && decide (i6 < (↑(List.length x.fst) : Int)) then (Option.bind x.fst[i6.toNat]? fun v7 => (bif decide (0 ≤ IntKind.i64.wrap (i6 - 1)) && decide (IntKind.i64.wrap (i6 - 1) < (↑(List.length x.fst) : Int)) then (Option.bind (x.fst[(IntKind.i64.wrap (i6 - 1)).toNat]?) fun v8 => (Option.bind (fn82 (v7, v8, ())) fun v9 => (bif decide (v9.fst < 0) then k0 else law81x82_0 N0 x k0 k1 n (IntKind.i64.wrap (i6 - 1))))) else none)) else none) else k1)
theorem leq81x82_0 {β : Type} (N0 : Nat) (x : Sh.Ts [(Sh.int IntKind.i64).sl]) (K : Exit → List AV → Heap → Option β) : ∀ (n : Nat) (i6 : Int), ln81x82_0 N0 n (t81x82_0 N0 x i6) (h81x82_0 N0 x i6) K = law81x82_0 N0 x (K (Exit.ret) (tx81x82_0_0 N0 x) (hx81x82_0_0 N0 x)) (K (Exit.exit 0) (tx81x82_0_1 N0 x) (hx81x82_0_1 N0 x)) n i6
  | 0, _ => rfl
  | n + 1, i6 => by
    have h : ln81x82_0 N0 (n + 1) (t81x82_0 N0 x i6) (h81x82_0 N0 x i6) K = (bif decide (i6 > 0) then (bif decide (0 ≤ i6) && decide (i6 < (↑(List.length x.fst) : Int)) then (Option.bind (x.fst[0 + i6.toNat]?) fun v7 => (bif decide (0 ≤ IntKind.i64.wrap (i6 - 1)) && decide (IntKind.i64.wrap (i6 - 1) < (↑(List.length x.fst) : Int)) then (Option.bind (x.fst[0 + (IntKind.i64.wrap (i6 - 1)).toNat]?) fun v8 => (Option.bind (fn82 (v7, v8, ())) fun v9 => (bif decide (v9.fst < 0) then K (Exit.ret) (tx81x82_0_0 N0 x) (hx81x82_0_0 N0 x) else ln81x82_0 N0 n (t81x82_0 N0 x (IntKind.i64.wrap (i6 - 1))) (h81x82_0 N0 x (IntKind.i64.wrap (i6 - 1))) K))) else none)) else none) else K (Exit.exit 0) (tx81x82_0_1 N0 x) (hx81x82_0_1 N0 x)) := by kernel_rfl
    rw [h]
    simp only [decide_self, decide_true, Nat.zero_add, Bool.and_true, Bool.true_and, cond_true, law81x82_0, leq81x82_0 N0 x K n]
theorem rest81x82_0_0 (N0 : Nat) (x : Sh.Ts [(Sh.int IntKind.i64).sl]) : rk81x82_0 N0 (Exit.ret) (tx81x82_0_0 N0 x) (hx81x82_0_0 N0 x) = some ((false, ())) := by kernel_rfl
theorem rest81x82_0_1 (N0 : Nat) (x : Sh.Ts [(Sh.int IntKind.i64).sl]) : rk81x82_0 N0 (Exit.exit 0) (tx81x82_0_1 N0 x) (hx81x82_0_1 N0 x) = some ((true, ())) := by kernel_rfl
noncomputable def law81x82 (N0 : Nat) (x : ((List Int) × Unit)) (xs : (Unit)) : Option ((Bool × Unit)) := (law81x82_0 N0 x (some ((false, ()))) (some ((true, ()))) N0 (IntKind.i64.wrap ((↑(List.length x.fst) : Int) - 1)))
theorem eq81x82 (N0 : Nat) (x : Sh.Ts [(Sh.int IntKind.i64).sl]) (xs : Sh.Ts []) : codeLawC Try.prog env81x82 200 (L81x82 N0) Try.f81 c81x82 [.sl (.int .i64)] 82 [] [.bool] x xs = law81x82 N0 x xs := by
  have h : codeLawC Try.prog env81x82 200 (L81x82 N0) Try.f81 c81x82 [.sl (.int .i64)] 82 [] [.bool] x xs = (ln81x82_0 N0 N0 (t81x82_0 N0 x (IntKind.i64.wrap ((↑(List.length x.fst) : Int) - 1))) (h81x82_0 N0 x (IntKind.i64.wrap ((↑(List.length x.fst) : Int) - 1))) (rk81x82_0 N0)) := by kernel_rfl
  rw [h]
  unfold law81x82
  simp only [decide_self, decide_true, Nat.zero_add, Bool.and_true, Bool.true_and, cond_true, leq81x82_0, rest81x82_0_0, rest81x82_0_1]
noncomputable def fn81x82 (x : ((List Int) × Unit)) (xs : (Unit)) : Option ((Bool × Unit)) := law81x82 (10 ^ 30) x xs
theorem reads81x82 : ReadsC Try.prog 81 [.sl (.int .i64)] 82 [] [.bool] fn81x82 := (ReadsC.of_code mixed (fn := Try.f81) (c := c81x82) Try.func81 (by kernel_rfl) (by kernel_rfl) env81x82 200 (L81x82_fit _) (by kernel_rfl)).to (eq81x82 _)
noncomputable def s81x82 : Summ Try.prog := reads81x82.summ (by kernel_rfl)
noncomputable def s81 : Summ Try.prog := s81x82
/- chicane/pane.rises -/
noncomputable def c66 : Code := (Try.f66.body.getD .skip)
noncomputable def env66 : Env Try.prog := ⟨[s81, s82], none⟩
noncomputable def L66 : Loops Try.prog := []
theorem L66_fit : (L66).fit c66 := Loops.fit_nil
noncomputable def law66 (x : ((List Int) × Unit)) : Option ((Bool × Unit)) := (Option.bind (fn81x82 x ()) fun v0 => some ((v0.fst, ())))
theorem eq66 (x : Sh.Ts [(Sh.int IntKind.i64).sl]) : codeLaw Try.prog env66 200 (L66) Try.f66 c66 [.sl (.int .i64)] [.bool] x = law66 x := by
  have h : codeLaw Try.prog env66 200 (L66) Try.f66 c66 [.sl (.int .i64)] [.bool] x = (bif decide (List.length x.fst = List.length x.fst) && true && true then (Option.bind (fn81x82 x ()) fun v0 => some ((v0.fst, ()))) else none) := by kernel_rfl
  rw [h]
  unfold law66
  simp only [decide_self, decide_true, Nat.zero_add, Bool.and_true, Bool.true_and, cond_true]
noncomputable def fn66 (x : ((List Int) × Unit)) : Option ((Bool × Unit)) := law66 x
theorem reads66 : Reads Try.prog 66 [.sl (.int .i64)] [.bool] fn66 := (Reads.of_code mixed (fn := Try.f66) (c := c66) Try.func66 (by kernel_rfl) (by kernel_rfl) env66 200 (L66_fit) (by kernel_rfl)).to (eq66)
noncomputable def s66 : Summ Try.prog := reads66.summ
/- chicane/pane.Right -/
noncomputable def c42 : Code := (Try.f42.body.getD .skip)
noncomputable def env42 : Env Try.prog := ⟨[s61, s64, s65, s66], none⟩
noncomputable def L42 : Loops Try.prog := []
theorem L42_fit : (L42).fit c42 := Loops.fit_nil
noncomputable def law42 (x : (PaneT × Unit)) : Option ((Int × Unit)) := (Option.bind (fn64 x) fun v0 => (bif !v0.fst then some ((42, ())) else (Option.bind (fn61 (x.fst.fst, ())) fun v1 => (bif v1.fst then some ((40, ())) else (Option.bind (fn61 (x.fst.snd.fst, ())) fun v2 => (bif v2.fst then some ((40, ())) else (Option.bind (fn65x61 x.fst.snd.snd ()) fun v3 => (bif v3.fst then some ((40, ())) else (Option.bind (fn66 (x.fst.fst, ())) fun v4 => (bif !v4.fst then some ((41, ())) else (Option.bind (fn66 (x.fst.snd.fst, ())) fun v5 => (bif !v5.fst then some ((41, ())) else some ((0, ()))))))))))))))
theorem eq42 (x : Sh.Ts [PaneSh]) : codeLaw Try.prog env42 200 (L42) Try.f42 c42 [PaneSh] [.int .i64] x = law42 x := by
  have h : codeLaw Try.prog env42 200 (L42) Try.f42 c42 [PaneSh] [.int .i64] x = (bif decide (List.length x.fst.fst = List.length x.fst.fst) && (decide (List.length x.fst.snd.fst = List.length x.fst.snd.fst) && (decide (List.length x.fst.snd.snd.fst = List.length x.fst.snd.snd.fst) && true)) && true then (Option.bind (fn64 x) fun v0 => (bif !v0.fst then some ((42, ())) else (bif decide (List.length x.fst.fst = List.length x.fst.fst) && true then (Option.bind (fn61 (x.fst.fst, ())) fun v1 => (bif v1.fst then some ((40, ())) else (bif decide (List.length x.fst.snd.fst = List.length x.fst.snd.fst) && true then (Option.bind (fn61 (x.fst.snd.fst, ())) fun v2 => (bif v2.fst then some ((40, ())) else (bif decide (List.length x.fst.snd.snd.fst = List.length x.fst.snd.snd.fst) && true && true then (Option.bind (fn65x61 x.fst.snd.snd ()) fun v3 => (bif v3.fst then some ((40, ())) else (bif decide (List.length x.fst.fst = List.length x.fst.fst) && true then (Option.bind (fn66 (x.fst.fst, ())) fun v4 => (bif !v4.fst then some ((41, ())) else (bif decide (List.length x.fst.snd.fst = List.length x.fst.snd.fst) && true then (Option.bind (fn66 (x.fst.snd.fst, ())) fun v5 => (bif !v5.fst then some ((41, ())) else some ((0, ())))) else none))) else none))) else none))) else none))) else none))) else none) := by kernel_rfl
  rw [h]
  unfold law42
  simp only [decide_self, decide_true, Nat.zero_add, Bool.and_true, Bool.true_and, cond_true]
noncomputable def fn42 (x : (PaneT × Unit)) : Option ((Int × Unit)) := law42 x
theorem reads42 : Reads Try.prog 42 [PaneSh] [.int .i64] fn42 := (Reads.of_code mixed (fn := Try.f42) (c := c42) Try.func42 (by kernel_rfl) (by kernel_rfl) env42 200 (L42_fit) (by kernel_rfl)).to (eq42)
noncomputable def s42 : Summ Try.prog := reads42.summ
/- chicane/car.ranged$1 -/
noncomputable def c71 : Code := (Try.f71.body.getD .skip)
noncomputable def env71 : Env Try.prog := ⟨[], none⟩
noncomputable def L71 : Loops Try.prog := []
theorem L71_fit : (L71).fit c71 := Loops.fit_nil
noncomputable def law71 (x : (boundT × Unit)) : Option ((Bool × Unit)) := (bif decide (x.fst.fst < x.fst.snd.fst) then some ((true, ())) else some ((decide (x.fst.fst > x.fst.snd.snd.fst), ())))
theorem eq71 (x : Sh.Ts [boundSh]) : codeLaw Try.prog env71 200 (L71) Try.f71 c71 [boundSh] [.bool] x = law71 x := by kernel_rfl
noncomputable def fn71 (x : (boundT × Unit)) : Option ((Bool × Unit)) := law71 x
theorem reads71 : Reads Try.prog 71 [boundSh] [.bool] fn71 := (Reads.of_code mixed (fn := Try.f71) (c := c71) Try.func71 (by kernel_rfl) (by kernel_rfl) env71 200 (L71_fit) (by kernel_rfl)).to (eq71)
noncomputable def s71 : Summ Try.prog := reads71.summ
/- slices.IndexFunc[[]chicane/car.bound,chicane/car.bound] -/
noncomputable def c90x71 : Code := (Try.f90.body.getD .skip)
noncomputable def env90x71 : Env Try.prog := ⟨[s71], none⟩
noncomputable def b90x71_0 : Code := ((kid ((subAt c90x71 [0, 1, 0, 1]).getD .skip) 0).getD .skip)
noncomputable def kx90x71_0 : Exit → List Nat | .ret => [4] | _ => []
noncomputable def Li90x71_0 (N0 : Nat) : Loops Try.prog := []
noncomputable def ls90x71_0 (N0 : Nat) : LSumm Try.prog := loopSumm mixed env90x71 200 (Li90x71_0 N0) b90x71_0 (Loops.fit_nil) [0, 1, 7, 8] kx90x71_0 (N0)
noncomputable def ln90x71_0 {β : Type} (N0 : Nat) (n : Nat) (t : List AV) (h : Heap) (K : Exit → List AV → Heap → Option β) : Option β := loopN Try.prog env90x71 (Sh.nes [.sl (boundSh)] + Sh.nes [] + List.length (α := Sh) []) 200 (Li90x71_0 N0) b90x71_0 [0, 1, 7, 8] kx90x71_0 n t h K
noncomputable def L90x71 (N0 : Nat) : Loops Try.prog := [([0, 1, 0, 1], ls90x71_0 N0)]
theorem L90x71_fit (N0 : Nat) : (L90x71 N0).fit c90x71 := Loops.fit_cons (by kernel_rfl) (Loops.fit_nil)
noncomputable def K90x71 : Exit → List AV → Heap → Option (Sh.Ts [.int .i64]) := fun e t h => outK (P := Try.prog) Try.f90 [.int .i64] e t h
noncomputable def rk90x71_0 (N0 : Nat) : Exit → List AV → Heap → Option (Sh.Ts [.int .i64]) := (blkK 0 (seqK Try.prog env90x71 (Sh.nes [.sl (boundSh)] + Sh.nes [] + List.length (α := Sh) []) 198 (L90x71 N0) [1, 1] ((subAt c90x71 [1, 1]).getD .skip) K90x71))
noncomputable def t90x71_0 (N0 : Nat) (x : Sh.Ts [boundSh.sl]) (i6 : Int) : List AV := [AV.slc 0 0 (List.length x.fst) Cap.low, AV.fn (Fn.func 71) [] [], AV.any, AV.any, AV.any, AV.any, AV.any, AV.val (Value.int IntKind.i64 (↑(List.length x.fst) : Int)), AV.val (Value.int IntKind.i64 i6), AV.any, AV.any, AV.any, AV.any, AV.any, AV.any, AV.any, AV.any, AV.any, AV.any]
noncomputable def h90x71_0 (N0 : Nat) (x : Sh.Ts [boundSh.sl]) (i6 : Int) : Heap := [Ent.live (Blk.mk (Cells.arr (Sh.st [Sh.int IntKind.i64, Sh.int IntKind.i64, Sh.int IntKind.i64]) x.fst) false none)]
noncomputable def tx90x71_0_0 (N0 : Nat) (x : Sh.Ts [boundSh.sl]) (w9 : Int) : List AV := [AV.any, AV.any, AV.any, AV.any, AV.val (Value.int IntKind.i64 w9), AV.any, AV.any, AV.any, AV.any, AV.any, AV.any, AV.any, AV.any, AV.any, AV.any, AV.any, AV.any, AV.any, AV.any]
noncomputable def hx90x71_0_0 (N0 : Nat) (x : Sh.Ts [boundSh.sl]) (w9 : Int) : Heap := [Ent.live (Blk.mk (Cells.arr (Sh.st [Sh.int IntKind.i64, Sh.int IntKind.i64, Sh.int IntKind.i64]) x.fst) false none)]
noncomputable def tx90x71_0_1 (N0 : Nat) (x : Sh.Ts [boundSh.sl]) : List AV := [AV.any, AV.any, AV.any, AV.any, AV.any, AV.any, AV.any, AV.any, AV.any, AV.any, AV.any, AV.any, AV.any, AV.any, AV.any, AV.any, AV.any, AV.any, AV.any]
noncomputable def hx90x71_0_1 (N0 : Nat) (x : Sh.Ts [boundSh.sl]) : Heap := [Ent.live (Blk.mk (Cells.arr (Sh.st [Sh.int IntKind.i64, Sh.int IntKind.i64, Sh.int IntKind.i64]) x.fst) false none)]
noncomputable def law90x71_0 {β : Type} (N0 : Nat) (x : ((List boundT) × Unit)) (k0 : Int → Option β) (k1 : Option β) : Nat → Int → Option β
  | 0, _ => none
  | n + 1, i6 => (bif decide (i6 < (↑(List.length x.fst) : Int)) then (bif decide (0 ≤ i6) && decide (i6 < (↑(List.length x.fst) : Int)) then (Option.bind x.fst[i6.toNat]? fun v7 => (Option.bind (fn71 (v7, ())) fun v8 => (bif v8.fst then k0 i6 else law90x71_0 N0 x k0 k1 n (IntKind.i64.wrap (i6 + 1))))) else none) else k1)
theorem leq90x71_0 {β : Type} (N0 : Nat) (x : Sh.Ts [boundSh.sl]) (K : Exit → List AV → Heap → Option β) : ∀ (n : Nat) (i6 : Int), ln90x71_0 N0 n (t90x71_0 N0 x i6) (h90x71_0 N0 x i6) K = law90x71_0 N0 x (fun w9 => K (Exit.ret) (tx90x71_0_0 N0 x w9) (hx90x71_0_0 N0 x w9)) (K (Exit.exit 0) (tx90x71_0_1 N0 x) (hx90x71_0_1 N0 x)) n i6
  | 0, _ => rfl
  | n + 1, i6 => by
    have h : ln90x71_0 N0 (n + 1) (t90x71_0 N0 x i6) (h90x71_0 N0 x i6) K = (bif decide (i6 < (↑(List.length x.fst) : Int)) then (bif decide (0 ≤ i6) && decide (i6 < (↑(List.length x.fst) : Int)) then (Option.bind x.fst[i6.toNat]? fun v7 => (Option.bind (fn71 (v7, ())) fun v8 => (bif v8.fst then K (Exit.ret) (tx90x71_0_0 N0 x i6) (hx90x71_0_0 N0 x i6) else ln90x71_0 N0 n (t90x71_0 N0 x (IntKind.i64.wrap (i6 + 1))) (h90x71_0 N0 x (IntKind.i64.wrap (i6 + 1))) K))) else none) else K (Exit.exit 0) (tx90x71_0_1 N0 x) (hx90x71_0_1 N0 x)) := by kernel_rfl
    rw [h]
    simp only [decide_self, decide_true, Nat.zero_add, Bool.and_true, Bool.true_and, cond_true, law90x71_0, leq90x71_0 N0 x K n]
theorem rest90x71_0_0 (N0 : Nat) (x : Sh.Ts [boundSh.sl]) (w10 : Int) : rk90x71_0 N0 (Exit.ret) (tx90x71_0_0 N0 x w10) (hx90x71_0_0 N0 x w10) = some ((w10, ())) := by kernel_rfl
theorem rest90x71_0_1 (N0 : Nat) (x : Sh.Ts [boundSh.sl]) : rk90x71_0 N0 (Exit.exit 0) (tx90x71_0_1 N0 x) (hx90x71_0_1 N0 x) = some ((-1, ())) := by kernel_rfl
noncomputable def law90x71 (N0 : Nat) (x : ((List boundT) × Unit)) (xs : (Unit)) : Option ((Int × Unit)) := (law90x71_0 N0 x (fun w10 => some ((w10, ()))) (some ((-1, ()))) N0 0)
theorem eq90x71 (N0 : Nat) (x : Sh.Ts [boundSh.sl]) (xs : Sh.Ts []) : codeLawC Try.prog env90x71 200 (L90x71 N0) Try.f90 c90x71 [.sl (boundSh)] 71 [] [.int .i64] x xs = law90x71 N0 x xs := by
  have h : codeLawC Try.prog env90x71 200 (L90x71 N0) Try.f90 c90x71 [.sl (boundSh)] 71 [] [.int .i64] x xs = (ln90x71_0 N0 N0 (t90x71_0 N0 x 0) (h90x71_0 N0 x 0) (rk90x71_0 N0)) := by kernel_rfl
  rw [h]
  unfold law90x71
  simp only [decide_self, decide_true, Nat.zero_add, Bool.and_true, Bool.true_and, cond_true, leq90x71_0, rest90x71_0_0, rest90x71_0_1]
noncomputable def fn90x71 (x : ((List boundT) × Unit)) (xs : (Unit)) : Option ((Int × Unit)) := law90x71 (10 ^ 30) x xs
theorem reads90x71 : ReadsC Try.prog 90 [.sl (boundSh)] 71 [] [.int .i64] fn90x71 := (ReadsC.of_code mixed (fn := Try.f90) (c := c90x71) Try.func90 (by kernel_rfl) (by kernel_rfl) env90x71 200 (L90x71_fit _) (by kernel_rfl)).to (eq90x71 _)
noncomputable def s90x71 : Summ Try.prog := reads90x71.summ (by kernel_rfl)
noncomputable def s90 : Summ Try.prog := s90x71
/- slices.ContainsFunc[[]chicane/car.bound,chicane/car.bound] -/
noncomputable def c72x71 : Code := (Try.f72.body.getD .skip)
noncomputable def env72x71 : Env Try.prog := ⟨[s90, s71], none⟩
noncomputable def L72x71 : Loops Try.prog := []
theorem L72x71_fit : (L72x71).fit c72x71 := Loops.fit_nil
noncomputable def law72x71 (x : ((List boundT) × Unit)) (xs : (Unit)) : Option ((Bool × Unit)) := (Option.bind (fn90x71 x ()) fun v0 => some ((decide (v0.fst ≥ 0), ())))
theorem eq72x71 (x : Sh.Ts [boundSh.sl]) (xs : Sh.Ts []) : codeLawC Try.prog env72x71 200 (L72x71) Try.f72 c72x71 [.sl (boundSh)] 71 [] [.bool] x xs = law72x71 x xs := by
  have h : codeLawC Try.prog env72x71 200 (L72x71) Try.f72 c72x71 [.sl (boundSh)] 71 [] [.bool] x xs = (bif decide (List.length x.fst = List.length x.fst) && true && true then (Option.bind (fn90x71 x ()) fun v0 => some ((decide (v0.fst ≥ 0), ()))) else none) := by kernel_rfl
  rw [h]
  unfold law72x71
  simp only [decide_self, decide_true, Nat.zero_add, Bool.and_true, Bool.true_and, cond_true]
noncomputable def fn72x71 (x : ((List boundT) × Unit)) (xs : (Unit)) : Option ((Bool × Unit)) := law72x71 x xs
theorem reads72x71 : ReadsC Try.prog 72 [.sl (boundSh)] 71 [] [.bool] fn72x71 := (ReadsC.of_code mixed (fn := Try.f72) (c := c72x71) Try.func72 (by kernel_rfl) (by kernel_rfl) env72x71 200 (L72x71_fit) (by kernel_rfl)).to (eq72x71)
noncomputable def s72x71 : Summ Try.prog := reads72x71.summ (by kernel_rfl)
noncomputable def s72 : Summ Try.prog := s72x71
/- chicane/car.ranged -/
noncomputable def c51 : Code := (Try.f51.body.getD .skip)
noncomputable def env51 : Env Try.prog := ⟨[s71, s72], none⟩
noncomputable def L51 : Loops Try.prog := []
theorem L51_fit : (L51).fit c51 := Loops.fit_nil
noncomputable def law51 (x : ((List boundT) × Unit)) : Option ((Int × Unit)) := (Option.bind (fn72x71 x ()) fun v0 => (bif v0.fst then some ((40, ())) else some ((0, ()))))
theorem eq51 (x : Sh.Ts [boundSh.sl]) : codeLaw Try.prog env51 200 (L51) Try.f51 c51 [.sl (boundSh)] [.int .i64] x = law51 x := by
  have h : codeLaw Try.prog env51 200 (L51) Try.f51 c51 [.sl (boundSh)] [.int .i64] x = (bif decide (List.length x.fst = List.length x.fst) && true && true then (Option.bind (fn72x71 x ()) fun v0 => (bif v0.fst then some ((40, ())) else some ((0, ())))) else none) := by kernel_rfl
  rw [h]
  unfold law51
  simp only [decide_self, decide_true, Nat.zero_add, Bool.and_true, Bool.true_and, cond_true]
noncomputable def fn51 (x : ((List boundT) × Unit)) : Option ((Int × Unit)) := law51 x
theorem reads51 : Reads Try.prog 51 [.sl (boundSh)] [.int .i64] fn51 := (Reads.of_code mixed (fn := Try.f51) (c := c51) Try.func51 (by kernel_rfl) (by kernel_rfl) env51 200 (L51_fit) (by kernel_rfl)).to (eq51)
noncomputable def s51 : Summ Try.prog := reads51.summ
/- chicane/car.body -/
noncomputable def c49 : Code := (Try.f49.body.getD .skip)
noncomputable def env49 : Env Try.prog := ⟨[s51], none⟩
noncomputable def L49 : Loops Try.prog := []
theorem L49_fit : (L49).fit c49 := Loops.fit_nil
noncomputable def law49 (x : (CarT × Unit)) : Option ((Int × Unit)) := (Option.bind (fn51 ([(x.fst.fst, 274877906944, 35184372088832, ()), (x.fst.snd.fst.fst, 68719476736, 281474976710656, ()), (x.fst.snd.fst.snd.fst, 68719476736, 281474976710656, ()), (x.fst.snd.fst.snd.snd.fst, 68719476736, 281474976710656, ()), (x.fst.snd.snd.snd.snd.snd.snd.snd.snd.snd.snd.snd.snd.snd.snd.snd.snd.snd.snd.snd.snd.snd.snd.snd.snd.snd.fst, 2147483648, 17179869184, ()), (x.fst.snd.snd.snd.snd.snd.snd.snd.snd.snd.snd.snd.snd.snd.snd.snd.snd.snd.snd.snd.snd.snd.snd.snd.snd.snd.snd.fst, 0, 4294967296, ()), (x.fst.snd.snd.snd.snd.snd.snd.snd.snd.snd.snd.snd.snd.snd.snd.snd.snd.snd.snd.snd.snd.snd.snd.snd.snd.snd.snd.snd.fst, 0, 4294967296, ())], ())) fun v0 => some ((v0.fst, ())))
theorem eq49 (x : Sh.Ts [CarSh]) : codeLaw Try.prog env49 200 (L49) Try.f49 c49 [CarSh] [.int .i64] x = law49 x := by kernel_rfl
noncomputable def fn49 (x : (CarT × Unit)) : Option ((Int × Unit)) := law49 x
theorem reads49 : Reads Try.prog 49 [CarSh] [.int .i64] fn49 := (Reads.of_code mixed (fn := Try.f49) (c := c49) Try.func49 (by kernel_rfl) (by kernel_rfl) env49 200 (L49_fit) (by kernel_rfl)).to (eq49)
noncomputable def s49 : Summ Try.prog := reads49.summ
/- chicane/car.wheel -/
noncomputable def c50 : Code := (Try.f50.body.getD .skip)
noncomputable def env50 : Env Try.prog := ⟨[s51], none⟩
noncomputable def L50 : Loops Try.prog := []
theorem L50_fit : (L50).fit c50 := Loops.fit_nil
noncomputable def law50 (x : (WheelT × Unit)) : Option ((Int × Unit)) := (Option.bind (fn51 ([(x.fst.fst.fst, -17179869184, 17179869184, ()), (x.fst.fst.snd.fst, -17179869184, 17179869184, ()), (x.fst.fst.snd.snd.fst, -8589934592, 8589934592, ()), (x.fst.snd.fst, 536870912, 4294967296, ()), (x.fst.snd.snd.fst, 536870912, 274877906944, ()), (x.fst.snd.snd.snd.fst, 4398046511104, 1125899906842624, ()), (x.fst.snd.snd.snd.snd.fst, 67108864, 2147483648, ()), (x.fst.snd.snd.snd.snd.snd.fst, 0, 4503599627370496, ())], ())) fun v0 => some ((v0.fst, ())))
theorem eq50 (x : Sh.Ts [WheelSh]) : codeLaw Try.prog env50 200 (L50) Try.f50 c50 [WheelSh] [.int .i64] x = law50 x := by kernel_rfl
noncomputable def fn50 (x : (WheelT × Unit)) : Option ((Int × Unit)) := law50 x
theorem reads50 : Reads Try.prog 50 [WheelSh] [.int .i64] fn50 := (Reads.of_code mixed (fn := Try.f50) (c := c50) Try.func50 (by kernel_rfl) (by kernel_rfl) env50 200 (L50_fit) (by kernel_rfl)).to (eq50)
noncomputable def s50 : Summ Try.prog := reads50.summ
/- chicane/table.Right -/
noncomputable def c73 : Code := (Try.f73.body.getD .skip)
noncomputable def env73 : Env Try.prog := ⟨[], none⟩
noncomputable def b73o0 : Code := ((kid ((subAt c73 [0, 1, 0, 1, 1]).getD .skip) 0).getD .skip)
noncomputable def kx73o0 : Exit → List Nat | .ret => [2] | _ => []
noncomputable def Li73o0 (N0 : Nat) : Loops Try.prog := []
noncomputable def ls73o0 (N0 : Nat) : LSumm Try.prog := loopSumm mixed env73 200 (Li73o0 N0) b73o0 (Loops.fit_nil) [0, 13, 14, 15] kx73o0 (N0)
noncomputable def ln73o0 {β : Type} (N0 : Nat) (n : Nat) (t : List AV) (h : Heap) (K : Exit → List AV → Heap → Option β) : Option β := loopN Try.prog env73 (Sh.nes [.sl (DotSh)]) 200 (Li73o0 N0) b73o0 [0, 13, 14, 15] kx73o0 n t h K
noncomputable def L73 (N0 : Nat) : Loops Try.prog := [([0, 1, 0, 1, 1], ls73o0 N0)]
theorem L73_fit (N0 : Nat) : (L73 N0).fit c73 := Loops.fit_cons (by kernel_rfl) (Loops.fit_nil)
noncomputable def K73 : Exit → List AV → Heap → Option (Sh.Ts [.int .i64]) := fun e t h => outK (P := Try.prog) Try.f73 [.int .i64] e t h
noncomputable def rk73o0 (N0 : Nat) : Exit → List AV → Heap → Option (Sh.Ts [.int .i64]) := (blkK 0 (seqK Try.prog env73 (Sh.nes [.sl (DotSh)]) 197 (L73 N0) [1, 1, 1] ((subAt c73 [1, 1, 1]).getD .skip) K73))
noncomputable def t73o0 (N0 : Nat) (x : Sh.Ts [DotSh.sl]) (i7 : Int) : List AV := [AV.slc 0 0 (List.length x.fst) Cap.low, AV.any, AV.any, AV.any, AV.any, AV.any, AV.any, AV.any, AV.any, AV.any, AV.any, AV.any, AV.any, AV.slc 0 0 (List.length x.fst) Cap.low, AV.val (Value.int IntKind.i64 (↑(List.length x.fst) : Int)), AV.val (Value.int IntKind.i64 i7), AV.any, AV.any, AV.any, AV.any, AV.any, AV.any, AV.any, AV.any, AV.any, AV.any, AV.any, AV.any, AV.any, AV.any, AV.any, AV.any, AV.any, AV.any, AV.any, AV.any, AV.any, AV.any, AV.any, AV.any, AV.any, AV.any, AV.any, AV.any, AV.any, AV.any, AV.any, AV.any, AV.any, AV.any]
noncomputable def h73o0 (N0 : Nat) (x : Sh.Ts [DotSh.sl]) (i7 : Int) : Heap := [Ent.live (Blk.mk (Cells.arr (Sh.st [Sh.int IntKind.i64, Sh.int IntKind.i64]) x.fst) false none)]
noncomputable def tx73o0o0 (N0 : Nat) (x : Sh.Ts [DotSh.sl]) (w10 : Int) : List AV := [AV.any, AV.any, AV.val (Value.int IntKind.i64 w10), AV.any, AV.any, AV.any, AV.any, AV.any, AV.any, AV.any, AV.any, AV.any, AV.any, AV.any, AV.any, AV.any, AV.any, AV.any, AV.any, AV.any, AV.any, AV.any, AV.any, AV.any, AV.any, AV.any, AV.any, AV.any, AV.any, AV.any, AV.any, AV.any, AV.any, AV.any, AV.any, AV.any, AV.any, AV.any, AV.any, AV.any, AV.any, AV.any, AV.any, AV.any, AV.any, AV.any, AV.any, AV.any, AV.any, AV.any]
noncomputable def hx73o0o0 (N0 : Nat) (x : Sh.Ts [DotSh.sl]) (w10 : Int) : Heap := [Ent.live (Blk.mk (Cells.arr (Sh.st [Sh.int IntKind.i64, Sh.int IntKind.i64]) x.fst) false none)]
noncomputable def tx73o0o1 (N0 : Nat) (x : Sh.Ts [DotSh.sl]) : List AV := [AV.any, AV.any, AV.any, AV.any, AV.any, AV.any, AV.any, AV.any, AV.any, AV.any, AV.any, AV.any, AV.any, AV.any, AV.any, AV.any, AV.any, AV.any, AV.any, AV.any, AV.any, AV.any, AV.any, AV.any, AV.any, AV.any, AV.any, AV.any, AV.any, AV.any, AV.any, AV.any, AV.any, AV.any, AV.any, AV.any, AV.any, AV.any, AV.any, AV.any, AV.any, AV.any, AV.any, AV.any, AV.any, AV.any, AV.any, AV.any, AV.any, AV.any]
noncomputable def hx73o0o1 (N0 : Nat) (x : Sh.Ts [DotSh.sl]) : Heap := [Ent.live (Blk.mk (Cells.arr (Sh.st [Sh.int IntKind.i64, Sh.int IntKind.i64]) x.fst) false none)]
noncomputable def law73o0 {β : Type} (N0 : Nat) (x : ((List DotT) × Unit)) (k0 : Int → Option β) (k1 : Option β) : Nat → Int → Option β
  | 0, _ => none
  | n + 1, i7 => (bif decide (i7 < (↑(List.length x.fst) : Int)) then (bif decide (0 ≤ i7) && decide (i7 < (↑(List.length x.fst) : Int)) then (Option.bind x.fst[i7.toNat]? fun v8 => (bif decide ((if v8.snd.fst > v8.fst then v8.snd.fst else v8.fst) > 4503599627370496) then k0 40 else (bif decide ((if v8.snd.fst < v8.fst then v8.snd.fst else v8.fst) < -4503599627370496) then k0 40 else (bif decide (i7 > 0) then (bif decide (0 ≤ IntKind.i64.wrap (i7 - 1)) && decide (IntKind.i64.wrap (i7 - 1) < (↑(List.length x.fst) : Int)) then (Option.bind (x.fst[(IntKind.i64.wrap (i7 - 1)).toNat]?) fun v9 => (bif decide (v8.fst ≤ v9.fst) then k0 41 else law73o0 N0 x k0 k1 n (IntKind.i64.wrap (i7 + 1)))) else none) else law73o0 N0 x k0 k1 n (IntKind.i64.wrap (i7 + 1)))))) else none) else k1)
theorem leq73o0 {β : Type} (N0 : Nat) (x : Sh.Ts [DotSh.sl]) (K : Exit → List AV → Heap → Option β) : ∀ (n : Nat) (i7 : Int), ln73o0 N0 n (t73o0 N0 x i7) (h73o0 N0 x i7) K = law73o0 N0 x (fun w10 => K (Exit.ret) (tx73o0o0 N0 x w10) (hx73o0o0 N0 x w10)) (K (Exit.exit 0) (tx73o0o1 N0 x) (hx73o0o1 N0 x)) n i7
  | 0, _ => rfl
  | n + 1, i7 => by
    have h : ln73o0 N0 (n + 1) (t73o0 N0 x i7) (h73o0 N0 x i7) K = (bif decide (i7 < (↑(List.length x.fst) : Int)) then (bif decide (0 ≤ i7) && decide (i7 < (↑(List.length x.fst) : Int)) then (Option.bind x.fst[i7.toNat]? fun v8 => (bif decide ((if v8.snd.fst > v8.fst then v8.snd.fst else v8.fst) > 4503599627370496) then K (Exit.ret) (tx73o0o0 N0 x 40) (hx73o0o0 N0 x 40) else (bif decide ((if v8.snd.fst < v8.fst then v8.snd.fst else v8.fst) < -4503599627370496) then K (Exit.ret) (tx73o0o0 N0 x 40) (hx73o0o0 N0 x 40) else (bif decide (i7 > 0) then (bif decide (0 ≤ IntKind.i64.wrap (i7 - 1)) && decide (IntKind.i64.wrap (i7 - 1) < (↑(List.length x.fst) : Int)) then (Option.bind (x.fst[(IntKind.i64.wrap (i7 - 1)).toNat]?) fun v9 => (bif decide (v8.fst ≤ v9.fst) then K (Exit.ret) (tx73o0o0 N0 x 41) (hx73o0o0 N0 x 41) else ln73o0 N0 n (t73o0 N0 x (IntKind.i64.wrap (i7 + 1))) (h73o0 N0 x (IntKind.i64.wrap (i7 + 1))) K)) else none) else ln73o0 N0 n (t73o0 N0 x (IntKind.i64.wrap (i7 + 1))) (h73o0 N0 x (IntKind.i64.wrap (i7 + 1))) K)))) else none) else K (Exit.exit 0) (tx73o0o1 N0 x) (hx73o0o1 N0 x)) := by kernel_rfl
    rw [h]
    simp only [decide_self, decide_true, Nat.zero_add, Bool.and_true, Bool.true_and, cond_true, law73o0, leq73o0 N0 x K n]
theorem rest73o0o0 (N0 : Nat) (x : Sh.Ts [DotSh.sl]) (w11 : Int) : rk73o0 N0 (Exit.ret) (tx73o0o0 N0 x w11) (hx73o0o0 N0 x w11) = some ((w11, ())) := by kernel_rfl
theorem rest73o0o1 (N0 : Nat) (x : Sh.Ts [DotSh.sl]) : rk73o0 N0 (Exit.exit 0) (tx73o0o1 N0 x) (hx73o0o1 N0 x) = some ((0, ())) := by kernel_rfl
noncomputable def law73 (N0 : Nat) (x : ((List DotT) × Unit)) : Option ((Int × Unit)) := (bif decide ((↑(List.length x.fst) : Int) < 2) then some ((42, ())) else (bif decide ((↑(List.length x.fst) : Int) > 32) then some ((42, ())) else (law73o0 N0 x (fun w11 => some ((w11, ()))) (some ((0, ()))) N0 0)))
theorem eq73 (N0 : Nat) (x : Sh.Ts [DotSh.sl]) : codeLaw Try.prog env73 200 (L73 N0) Try.f73 c73 [.sl (DotSh)] [.int .i64] x = law73 N0 x := by
  have h : codeLaw Try.prog env73 200 (L73 N0) Try.f73 c73 [.sl (DotSh)] [.int .i64] x = (bif decide ((↑(List.length x.fst) : Int) < 2) then some ((42, ())) else (bif decide ((↑(List.length x.fst) : Int) > 32) then some ((42, ())) else (ln73o0 N0 N0 (t73o0 N0 x 0) (h73o0 N0 x 0) (rk73o0 N0)))) := by kernel_rfl
  rw [h]
  unfold law73
  simp only [decide_self, decide_true, Nat.zero_add, Bool.and_true, Bool.true_and, cond_true, leq73o0, rest73o0o0, rest73o0o1]
noncomputable def fn73 (x : ((List DotT) × Unit)) : Option ((Int × Unit)) := law73 (10 ^ 30) x
theorem reads73 : Reads Try.prog 73 [.sl (DotSh)] [.int .i64] fn73 := (Reads.of_code mixed (fn := Try.f73) (c := c73) Try.func73 (by kernel_rfl) (by kernel_rfl) env73 200 (L73_fit _) (by kernel_rfl)).to (eq73 _)
noncomputable def s73 : Summ Try.prog := reads73.summ
/- chicane/car.alike -/
noncomputable def c53 : Code := (Try.f53.body.getD .skip)
noncomputable def env53 : Env Try.prog := ⟨[], none⟩
noncomputable def L53 : Loops Try.prog := []
theorem L53_fit : (L53).fit c53 := Loops.fit_nil
noncomputable def law53 (x : (DotT × Unit)) : Option ((Bool × Unit)) := (bif decide ((if x.fst.snd.fst < x.fst.fst then x.fst.snd.fst else x.fst.fst) < 0) then some ((!decide ((if x.fst.snd.fst > x.fst.fst then x.fst.snd.fst else x.fst.fst) > 0), ())) else some ((!false, ())))
theorem eq53 (x : Sh.Ts [DotSh]) : codeLaw Try.prog env53 200 (L53) Try.f53 c53 [DotSh] [.bool] x = law53 x := by kernel_rfl
noncomputable def fn53 (x : (DotT × Unit)) : Option ((Bool × Unit)) := law53 x
theorem reads53 : Reads Try.prog 53 [DotSh] [.bool] fn53 := (Reads.of_code mixed (fn := Try.f53) (c := c53) Try.func53 (by kernel_rfl) (by kernel_rfl) env53 200 (L53_fit) (by kernel_rfl)).to (eq53)
noncomputable def s53 : Summ Try.prog := reads53.summ
/- chicane/car.values -/
noncomputable def c52x53 : Code := (Try.f52.body.getD .skip)
noncomputable def env52x53 : Env Try.prog := ⟨[s73, s53], none⟩
noncomputable def b52x53_0 : Code := ((kid ((subAt c52x53 [0, 1, 0, 1, 1]).getD .skip) 0).getD .skip)
noncomputable def kx52x53_0 : Exit → List Nat | .ret => [8] | _ => []
noncomputable def Li52x53_0 (N0 : Nat) : Loops Try.prog := []
noncomputable def ls52x53_0 (N0 : Nat) : LSumm Try.prog := loopSumm mixed env52x53 200 (Li52x53_0 N0) b52x53_0 (Loops.fit_nil) [1, 2, 3, 17, 18, 19] kx52x53_0 (N0)
noncomputable def ln52x53_0 {β : Type} (N0 : Nat) (n : Nat) (t : List AV) (h : Heap) (K : Exit → List AV → Heap → Option β) : Option β := loopN Try.prog env52x53 (Sh.nes [.sl (DotSh), .int .i64, .int .i64] + Sh.nes [] + List.length (α := Sh) []) 200 (Li52x53_0 N0) b52x53_0 [1, 2, 3, 17, 18, 19] kx52x53_0 n t h K
noncomputable def L52x53 (N0 : Nat) : Loops Try.prog := [([0, 1, 0, 1, 1], ls52x53_0 N0)]
theorem L52x53_fit (N0 : Nat) : (L52x53 N0).fit c52x53 := Loops.fit_cons (by kernel_rfl) (Loops.fit_nil)
noncomputable def K52x53 : Exit → List AV → Heap → Option (Sh.Ts [.int .i64]) := fun e t h => outK (P := Try.prog) Try.f52 [.int .i64] e t h
noncomputable def rk52x53_0 (N0 : Nat) : Exit → List AV → Heap → Option (Sh.Ts [.int .i64]) := (blkK 0 (seqK Try.prog env52x53 (Sh.nes [.sl (DotSh), .int .i64, .int .i64] + Sh.nes [] + List.length (α := Sh) []) 197 (L52x53 N0) [1, 1, 1] ((subAt c52x53 [1, 1, 1]).getD .skip) K52x53))
noncomputable def t52x53_0 (N0 : Nat) (x : Sh.Ts [DotSh.sl, Sh.int IntKind.i64, Sh.int IntKind.i64]) (i9 : Int) : List AV := [AV.any, AV.val (Value.int IntKind.i64 x.snd.fst), AV.val (Value.int IntKind.i64 x.snd.snd.fst), AV.fn (Fn.func 53) [] [], AV.any, AV.any, AV.any, AV.any, AV.any, AV.any, AV.any, AV.any, AV.any, AV.any, AV.any, AV.any, AV.any, AV.slc 0 0 (List.length x.fst) Cap.low, AV.val (Value.int IntKind.i64 (↑(List.length x.fst) : Int)), AV.val (Value.int IntKind.i64 i9), AV.any, AV.any, AV.any, AV.any, AV.any, AV.any, AV.any, AV.any, AV.any, AV.any, AV.any, AV.any, AV.any, AV.any, AV.any, AV.any, AV.any, AV.any, AV.any, AV.any]
noncomputable def h52x53_0 (N0 : Nat) (x : Sh.Ts [DotSh.sl, Sh.int IntKind.i64, Sh.int IntKind.i64]) (i9 : Int) : Heap := [Ent.live (Blk.mk (Cells.arr (Sh.st [Sh.int IntKind.i64, Sh.int IntKind.i64]) x.fst) false none)]
noncomputable def tx52x53_0_0 (N0 : Nat) (x : Sh.Ts [DotSh.sl, Sh.int IntKind.i64, Sh.int IntKind.i64]) : List AV := [AV.any, AV.any, AV.any, AV.any, AV.any, AV.any, AV.any, AV.any, AV.val (Value.int IntKind.i64 40), AV.any, AV.any, AV.any, AV.any, AV.any, AV.any, AV.any, AV.any, AV.any, AV.any, AV.any, AV.any, AV.any, AV.any, AV.any, AV.any, AV.any, AV.any, AV.any, AV.any, AV.any, AV.any, AV.any, AV.any, AV.any, AV.any, AV.any, AV.any, AV.any, AV.any, AV.any]
noncomputable def hx52x53_0_0 (N0 : Nat) (x : Sh.Ts [DotSh.sl, Sh.int IntKind.i64, Sh.int IntKind.i64]) : Heap := [Ent.live (Blk.mk (Cells.arr (Sh.st [Sh.int IntKind.i64, Sh.int IntKind.i64]) x.fst) false none)]
noncomputable def tx52x53_0_1 (N0 : Nat) (x : Sh.Ts [DotSh.sl, Sh.int IntKind.i64, Sh.int IntKind.i64]) : List AV := [AV.any, AV.any, AV.any, AV.any, AV.any, AV.any, AV.any, AV.any, AV.any, AV.any, AV.any, AV.any, AV.any, AV.any, AV.any, AV.any, AV.any, AV.any, AV.any, AV.any, AV.any, AV.any, AV.any, AV.any, AV.any, AV.any, AV.any, AV.any, AV.any, AV.any, AV.any, AV.any, AV.any, AV.any, AV.any, AV.any, AV.any, AV.any, AV.any, AV.any]
noncomputable def hx52x53_0_1 (N0 : Nat) (x : Sh.Ts [DotSh.sl, Sh.int IntKind.i64, Sh.int IntKind.i64]) : Heap := [Ent.live (Blk.mk (Cells.arr (Sh.st [Sh.int IntKind.i64, Sh.int IntKind.i64]) x.fst) false none)]
noncomputable def law52x53_0 {β : Type} (N0 : Nat) (x : ((List DotT) × Int × Int × Unit)) (k0 : Option β) (k1 : Option β) : Nat → Int → Option β
  | 0, _ => none
  | n + 1, i9 => (bif decide (i9 < (↑(List.length x.fst) : Int)) then (bif decide (0 ≤ i9) && decide (i9 < (↑(List.length x.fst) : Int)) then (Option.bind x.fst[i9.toNat]? fun v10 => (bif decide (v10.snd.fst < x.snd.fst) then k0 else (bif decide (v10.snd.fst > x.snd.snd.fst) then k0 else (Option.bind (fn53 (v10, ())) fun v11 => (bif !v11.fst then k0 else law52x53_0 N0 x k0 k1 n (IntKind.i64.wrap (i9 + 1))))))) else none) else k1)
theorem leq52x53_0 {β : Type} (N0 : Nat) (x : Sh.Ts [DotSh.sl, Sh.int IntKind.i64, Sh.int IntKind.i64]) (K : Exit → List AV → Heap → Option β) : ∀ (n : Nat) (i9 : Int), ln52x53_0 N0 n (t52x53_0 N0 x i9) (h52x53_0 N0 x i9) K = law52x53_0 N0 x (K (Exit.ret) (tx52x53_0_0 N0 x) (hx52x53_0_0 N0 x)) (K (Exit.exit 0) (tx52x53_0_1 N0 x) (hx52x53_0_1 N0 x)) n i9
  | 0, _ => rfl
  | n + 1, i9 => by
    have h : ln52x53_0 N0 (n + 1) (t52x53_0 N0 x i9) (h52x53_0 N0 x i9) K = (bif decide (i9 < (↑(List.length x.fst) : Int)) then (bif decide (0 ≤ i9) && decide (i9 < (↑(List.length x.fst) : Int)) then (Option.bind x.fst[i9.toNat]? fun v10 => (bif decide (v10.snd.fst < x.snd.fst) then K (Exit.ret) (tx52x53_0_0 N0 x) (hx52x53_0_0 N0 x) else (bif decide (v10.snd.fst > x.snd.snd.fst) then K (Exit.ret) (tx52x53_0_0 N0 x) (hx52x53_0_0 N0 x) else (Option.bind (fn53 (v10, ())) fun v11 => (bif !v11.fst then K (Exit.ret) (tx52x53_0_0 N0 x) (hx52x53_0_0 N0 x) else ln52x53_0 N0 n (t52x53_0 N0 x (IntKind.i64.wrap (i9 + 1))) (h52x53_0 N0 x (IntKind.i64.wrap (i9 + 1))) K))))) else none) else K (Exit.exit 0) (tx52x53_0_1 N0 x) (hx52x53_0_1 N0 x)) := by kernel_rfl
    rw [h]
    simp only [decide_self, decide_true, Nat.zero_add, Bool.and_true, Bool.true_and, cond_true, law52x53_0, leq52x53_0 N0 x K n]
theorem rest52x53_0_0 (N0 : Nat) (x : Sh.Ts [DotSh.sl, Sh.int IntKind.i64, Sh.int IntKind.i64]) : rk52x53_0 N0 (Exit.ret) (tx52x53_0_0 N0 x) (hx52x53_0_0 N0 x) = some ((40, ())) := by kernel_rfl
theorem rest52x53_0_1 (N0 : Nat) (x : Sh.Ts [DotSh.sl, Sh.int IntKind.i64, Sh.int IntKind.i64]) : rk52x53_0 N0 (Exit.exit 0) (tx52x53_0_1 N0 x) (hx52x53_0_1 N0 x) = some ((0, ())) := by kernel_rfl
noncomputable def law52x53 (N0 : Nat) (x : ((List DotT) × Int × Int × Unit)) (xs : (Unit)) : Option ((Int × Unit)) := (Option.bind (fn73 (x.fst, ())) fun v0 => (bif v0.fst != 0 then some ((v0.fst, ())) else (law52x53_0 N0 x (some ((40, ()))) (some ((0, ()))) N0 0)))
theorem eq52x53 (N0 : Nat) (x : Sh.Ts [DotSh.sl, Sh.int IntKind.i64, Sh.int IntKind.i64]) (xs : Sh.Ts []) : codeLawC Try.prog env52x53 200 (L52x53 N0) Try.f52 c52x53 [.sl (DotSh), .int .i64, .int .i64] 53 [] [.int .i64] x xs = law52x53 N0 x xs := by
  have h : codeLawC Try.prog env52x53 200 (L52x53 N0) Try.f52 c52x53 [.sl (DotSh), .int .i64, .int .i64] 53 [] [.int .i64] x xs = (bif decide (List.length x.fst = List.length x.fst) && true then (Option.bind (fn73 (x.fst, ())) fun v0 => (bif v0.fst != 0 then some ((v0.fst, ())) else (ln52x53_0 N0 N0 (t52x53_0 N0 x 0) (h52x53_0 N0 x 0) (rk52x53_0 N0)))) else none) := by kernel_rfl
  rw [h]
  unfold law52x53
  simp only [decide_self, decide_true, Nat.zero_add, Bool.and_true, Bool.true_and, cond_true, leq52x53_0, rest52x53_0_0, rest52x53_0_1]
noncomputable def fn52x53 (x : ((List DotT) × Int × Int × Unit)) (xs : (Unit)) : Option ((Int × Unit)) := law52x53 (10 ^ 30) x xs
theorem reads52x53 : ReadsC Try.prog 52 [.sl (DotSh), .int .i64, .int .i64] 53 [] [.int .i64] fn52x53 := (ReadsC.of_code mixed (fn := Try.f52) (c := c52x53) Try.func52 (by kernel_rfl) (by kernel_rfl) env52x53 200 (L52x53_fit _) (by kernel_rfl)).to (eq52x53 _)
noncomputable def s52x53 : Summ Try.prog := reads52x53.summ (by kernel_rfl)
/- chicane/car.free -/
noncomputable def c55 : Code := (Try.f55.body.getD .skip)
noncomputable def env55 : Env Try.prog := ⟨[], none⟩
noncomputable def L55 : Loops Try.prog := []
theorem L55_fit : (L55).fit c55 := Loops.fit_nil
noncomputable def law55 (x : (DotT × Unit)) : Option ((Bool × Unit)) := some ((true, ()))
theorem eq55 (x : Sh.Ts [DotSh]) : codeLaw Try.prog env55 200 (L55) Try.f55 c55 [DotSh] [.bool] x = law55 x := by kernel_rfl
noncomputable def fn55 (x : (DotT × Unit)) : Option ((Bool × Unit)) := law55 x
theorem reads55 : Reads Try.prog 55 [DotSh] [.bool] fn55 := (Reads.of_code mixed (fn := Try.f55) (c := c55) Try.func55 (by kernel_rfl) (by kernel_rfl) env55 200 (L55_fit) (by kernel_rfl)).to (eq55)
noncomputable def s55 : Summ Try.prog := reads55.summ
/- chicane/car.values -/
noncomputable def c52x55 : Code := (Try.f52.body.getD .skip)
noncomputable def env52x55 : Env Try.prog := ⟨[s73, s55], none⟩
noncomputable def b52x55_0 : Code := ((kid ((subAt c52x55 [0, 1, 0, 1, 1]).getD .skip) 0).getD .skip)
noncomputable def kx52x55_0 : Exit → List Nat | .ret => [8] | _ => []
noncomputable def Li52x55_0 (N0 : Nat) : Loops Try.prog := []
noncomputable def ls52x55_0 (N0 : Nat) : LSumm Try.prog := loopSumm mixed env52x55 200 (Li52x55_0 N0) b52x55_0 (Loops.fit_nil) [1, 2, 3, 17, 18, 19] kx52x55_0 (N0)
noncomputable def ln52x55_0 {β : Type} (N0 : Nat) (n : Nat) (t : List AV) (h : Heap) (K : Exit → List AV → Heap → Option β) : Option β := loopN Try.prog env52x55 (Sh.nes [.sl (DotSh), .int .i64, .int .i64] + Sh.nes [] + List.length (α := Sh) []) 200 (Li52x55_0 N0) b52x55_0 [1, 2, 3, 17, 18, 19] kx52x55_0 n t h K
noncomputable def L52x55 (N0 : Nat) : Loops Try.prog := [([0, 1, 0, 1, 1], ls52x55_0 N0)]
theorem L52x55_fit (N0 : Nat) : (L52x55 N0).fit c52x55 := Loops.fit_cons (by kernel_rfl) (Loops.fit_nil)
noncomputable def K52x55 : Exit → List AV → Heap → Option (Sh.Ts [.int .i64]) := fun e t h => outK (P := Try.prog) Try.f52 [.int .i64] e t h
noncomputable def rk52x55_0 (N0 : Nat) : Exit → List AV → Heap → Option (Sh.Ts [.int .i64]) := (blkK 0 (seqK Try.prog env52x55 (Sh.nes [.sl (DotSh), .int .i64, .int .i64] + Sh.nes [] + List.length (α := Sh) []) 197 (L52x55 N0) [1, 1, 1] ((subAt c52x55 [1, 1, 1]).getD .skip) K52x55))
noncomputable def t52x55_0 (N0 : Nat) (x : Sh.Ts [DotSh.sl, Sh.int IntKind.i64, Sh.int IntKind.i64]) (i8 : Int) : List AV := [AV.any, AV.val (Value.int IntKind.i64 x.snd.fst), AV.val (Value.int IntKind.i64 x.snd.snd.fst), AV.fn (Fn.func 55) [] [], AV.any, AV.any, AV.any, AV.any, AV.any, AV.any, AV.any, AV.any, AV.any, AV.any, AV.any, AV.any, AV.any, AV.slc 0 0 (List.length x.fst) Cap.low, AV.val (Value.int IntKind.i64 (↑(List.length x.fst) : Int)), AV.val (Value.int IntKind.i64 i8), AV.any, AV.any, AV.any, AV.any, AV.any, AV.any, AV.any, AV.any, AV.any, AV.any, AV.any, AV.any, AV.any, AV.any, AV.any, AV.any, AV.any, AV.any, AV.any, AV.any]
noncomputable def h52x55_0 (N0 : Nat) (x : Sh.Ts [DotSh.sl, Sh.int IntKind.i64, Sh.int IntKind.i64]) (i8 : Int) : Heap := [Ent.live (Blk.mk (Cells.arr (Sh.st [Sh.int IntKind.i64, Sh.int IntKind.i64]) x.fst) false none)]
noncomputable def tx52x55_0_0 (N0 : Nat) (x : Sh.Ts [DotSh.sl, Sh.int IntKind.i64, Sh.int IntKind.i64]) : List AV := [AV.any, AV.any, AV.any, AV.any, AV.any, AV.any, AV.any, AV.any, AV.val (Value.int IntKind.i64 40), AV.any, AV.any, AV.any, AV.any, AV.any, AV.any, AV.any, AV.any, AV.any, AV.any, AV.any, AV.any, AV.any, AV.any, AV.any, AV.any, AV.any, AV.any, AV.any, AV.any, AV.any, AV.any, AV.any, AV.any, AV.any, AV.any, AV.any, AV.any, AV.any, AV.any, AV.any]
noncomputable def hx52x55_0_0 (N0 : Nat) (x : Sh.Ts [DotSh.sl, Sh.int IntKind.i64, Sh.int IntKind.i64]) : Heap := [Ent.live (Blk.mk (Cells.arr (Sh.st [Sh.int IntKind.i64, Sh.int IntKind.i64]) x.fst) false none)]
noncomputable def tx52x55_0_1 (N0 : Nat) (x : Sh.Ts [DotSh.sl, Sh.int IntKind.i64, Sh.int IntKind.i64]) : List AV := [AV.any, AV.any, AV.any, AV.any, AV.any, AV.any, AV.any, AV.any, AV.any, AV.any, AV.any, AV.any, AV.any, AV.any, AV.any, AV.any, AV.any, AV.any, AV.any, AV.any, AV.any, AV.any, AV.any, AV.any, AV.any, AV.any, AV.any, AV.any, AV.any, AV.any, AV.any, AV.any, AV.any, AV.any, AV.any, AV.any, AV.any, AV.any, AV.any, AV.any]
noncomputable def hx52x55_0_1 (N0 : Nat) (x : Sh.Ts [DotSh.sl, Sh.int IntKind.i64, Sh.int IntKind.i64]) : Heap := [Ent.live (Blk.mk (Cells.arr (Sh.st [Sh.int IntKind.i64, Sh.int IntKind.i64]) x.fst) false none)]
noncomputable def law52x55_0 {β : Type} (N0 : Nat) (x : ((List DotT) × Int × Int × Unit)) (k0 : Option β) (k1 : Option β) : Nat → Int → Option β
  | 0, _ => none
  | n + 1, i8 => (bif decide (i8 < (↑(List.length x.fst) : Int)) then (bif decide (0 ≤ i8) && decide (i8 < (↑(List.length x.fst) : Int)) then (Option.bind x.fst[i8.toNat]? fun v9 => (bif decide (v9.snd.fst < x.snd.fst) then k0 else (bif decide (v9.snd.fst > x.snd.snd.fst) then k0 else law52x55_0 N0 x k0 k1 n (IntKind.i64.wrap (i8 + 1))))) else none) else k1)
theorem leq52x55_0 {β : Type} (N0 : Nat) (x : Sh.Ts [DotSh.sl, Sh.int IntKind.i64, Sh.int IntKind.i64]) (K : Exit → List AV → Heap → Option β) : ∀ (n : Nat) (i8 : Int), ln52x55_0 N0 n (t52x55_0 N0 x i8) (h52x55_0 N0 x i8) K = law52x55_0 N0 x (K (Exit.ret) (tx52x55_0_0 N0 x) (hx52x55_0_0 N0 x)) (K (Exit.exit 0) (tx52x55_0_1 N0 x) (hx52x55_0_1 N0 x)) n i8
  | 0, _ => rfl
  | n + 1, i8 => by
    have h : ln52x55_0 N0 (n + 1) (t52x55_0 N0 x i8) (h52x55_0 N0 x i8) K = (bif decide (i8 < (↑(List.length x.fst) : Int)) then (bif decide (0 ≤ i8) && decide (i8 < (↑(List.length x.fst) : Int)) then (Option.bind x.fst[i8.toNat]? fun v9 => (bif decide (v9.snd.fst < x.snd.fst) then K (Exit.ret) (tx52x55_0_0 N0 x) (hx52x55_0_0 N0 x) else (bif decide (v9.snd.fst > x.snd.snd.fst) then K (Exit.ret) (tx52x55_0_0 N0 x) (hx52x55_0_0 N0 x) else ln52x55_0 N0 n (t52x55_0 N0 x (IntKind.i64.wrap (i8 + 1))) (h52x55_0 N0 x (IntKind.i64.wrap (i8 + 1))) K))) else none) else K (Exit.exit 0) (tx52x55_0_1 N0 x) (hx52x55_0_1 N0 x)) := by kernel_rfl
    rw [h]
    simp only [decide_self, decide_true, Nat.zero_add, Bool.and_true, Bool.true_and, cond_true, law52x55_0, leq52x55_0 N0 x K n]
theorem rest52x55_0_0 (N0 : Nat) (x : Sh.Ts [DotSh.sl, Sh.int IntKind.i64, Sh.int IntKind.i64]) : rk52x55_0 N0 (Exit.ret) (tx52x55_0_0 N0 x) (hx52x55_0_0 N0 x) = some ((40, ())) := by kernel_rfl
theorem rest52x55_0_1 (N0 : Nat) (x : Sh.Ts [DotSh.sl, Sh.int IntKind.i64, Sh.int IntKind.i64]) : rk52x55_0 N0 (Exit.exit 0) (tx52x55_0_1 N0 x) (hx52x55_0_1 N0 x) = some ((0, ())) := by kernel_rfl
noncomputable def law52x55 (N0 : Nat) (x : ((List DotT) × Int × Int × Unit)) (xs : (Unit)) : Option ((Int × Unit)) := (Option.bind (fn73 (x.fst, ())) fun v0 => (bif v0.fst != 0 then some ((v0.fst, ())) else (law52x55_0 N0 x (some ((40, ()))) (some ((0, ()))) N0 0)))
theorem eq52x55 (N0 : Nat) (x : Sh.Ts [DotSh.sl, Sh.int IntKind.i64, Sh.int IntKind.i64]) (xs : Sh.Ts []) : codeLawC Try.prog env52x55 200 (L52x55 N0) Try.f52 c52x55 [.sl (DotSh), .int .i64, .int .i64] 55 [] [.int .i64] x xs = law52x55 N0 x xs := by
  have h : codeLawC Try.prog env52x55 200 (L52x55 N0) Try.f52 c52x55 [.sl (DotSh), .int .i64, .int .i64] 55 [] [.int .i64] x xs = (bif decide (List.length x.fst = List.length x.fst) && true then (Option.bind (fn73 (x.fst, ())) fun v0 => (bif v0.fst != 0 then some ((v0.fst, ())) else (ln52x55_0 N0 N0 (t52x55_0 N0 x 0) (h52x55_0 N0 x 0) (rk52x55_0 N0)))) else none) := by kernel_rfl
  rw [h]
  unfold law52x55
  simp only [decide_self, decide_true, Nat.zero_add, Bool.and_true, Bool.true_and, cond_true, leq52x55_0, rest52x55_0_0, rest52x55_0_1]
noncomputable def fn52x55 (x : ((List DotT) × Int × Int × Unit)) (xs : (Unit)) : Option ((Int × Unit)) := law52x55 (10 ^ 30) x xs
theorem reads52x55 : ReadsC Try.prog 52 [.sl (DotSh), .int .i64, .int .i64] 55 [] [.int .i64] fn52x55 := (ReadsC.of_code mixed (fn := Try.f52) (c := c52x55) Try.func52 (by kernel_rfl) (by kernel_rfl) env52x55 200 (L52x55_fit _) (by kernel_rfl)).to (eq52x55 _)
noncomputable def s52x55 : Summ Try.prog := reads52x55.summ (by kernel_rfl)
noncomputable def s52 : Summ Try.prog := (Summ.choose (lastFn 53) s52x53 s52x55 rfl)
/- slices.Grow[[]chicane/api.Fx,chicane/api.Fx] -/
noncomputable def c96 : Code := (Try.f96.body.getD .skip)
noncomputable def env96 : Env Try.prog := ⟨[], none⟩
noncomputable def s96 : Summ Try.prog := inlSumm allRw mixed 96 Try.f96 c96 Try.func96 (by kernel_rfl) (by kernel_rfl) env96 200 [] (Loops.fit_nil)
/- slices.Concat[[]chicane/api.Fx,chicane/api.Fx] -/
noncomputable def c91 : Code := (Try.f91.body.getD .skip)
noncomputable def env91 : Env Try.prog := ⟨[s96], none⟩
noncomputable def b91o1 : Code := ((kid ((subAt c91 [0, 1, 0, 1, 1, 1, 1]).getD .skip) 0).getD .skip)
noncomputable def kx91o1 : Exit → List Nat | .ret => [2] | .exit 2 => [6] | _ => []
noncomputable def b91o0 : Code := ((kid ((subAt c91 [0, 1, 0, 1, 1]).getD .skip) 0).getD .skip)
noncomputable def kx91o0 : Exit → List Nat | .ret => [2] | .exit 0 => [0, 3] | _ => []
noncomputable def Li91o1 (N0 N1 : Nat) : Loops Try.prog := []
noncomputable def ls91o1 (N0 N1 : Nat) : LSumm Try.prog := loopSumm mixed env91 200 (Li91o1 N0 N1) b91o1 (Loops.fit_nil) [6, 25, 26, 27] kx91o1 (Nat.succ N1)
noncomputable def ln91o1 {β : Type} (N0 N1 : Nat) (n : Nat) (t : List AV) (h : Heap) (K : Exit → List AV → Heap → Option β) : Option β := loopN Try.prog env91 (Sh.nes [.rows (.int .i64)]) 200 (Li91o1 N0 N1) b91o1 [6, 25, 26, 27] kx91o1 n t h K
noncomputable def Li91o0 (N0 N1 : Nat) : Loops Try.prog := []
noncomputable def ls91o0 (N0 N1 : Nat) : LSumm Try.prog := loopSumm mixed env91 200 (Li91o0 N0 N1) b91o0 (Loops.fit_nil) [0, 3, 9, 10, 11] kx91o0 (Nat.succ N0)
noncomputable def ln91o0 {β : Type} (N0 N1 : Nat) (n : Nat) (t : List AV) (h : Heap) (K : Exit → List AV → Heap → Option β) : Option β := loopN Try.prog env91 (Sh.nes [.rows (.int .i64)]) 200 (Li91o0 N0 N1) b91o0 [0, 3, 9, 10, 11] kx91o0 n t h K
noncomputable def L91 (N0 N1 : Nat) : Loops Try.prog := [([0, 1, 0, 1, 1], ls91o0 N0 N1), ([0, 1, 0, 1, 1, 1, 1], ls91o1 N0 N1)]
theorem L91_fit (N0 N1 : Nat) : (L91 N0 N1).fit c91 := Loops.fit_cons (by kernel_rfl) (Loops.fit_cons (by kernel_rfl) (Loops.fit_nil))
noncomputable def K91 : Exit → List AV → Heap → Option (List (Sh.T (.int .i64))) := fun e t h => outF (P := Try.prog) Try.f91 (Sh.nes [.rows (.int .i64)]) (.int .i64) e t h
noncomputable def rk91o0 (N0 N1 : Nat) : Exit → List AV → Heap → Option (List (Sh.T (.int .i64))) := (blkK 0 (seqK Try.prog env91 (Sh.nes [.rows (.int .i64)]) 197 (L91 N0 N1) [1, 1, 1] ((subAt c91 [1, 1, 1]).getD .skip) K91))
noncomputable def rk91o1 (N0 N1 : Nat) : Exit → List AV → Heap → Option (List (Sh.T (.int .i64))) := (blkK 2 (seqK Try.prog env91 (Sh.nes [.rows (.int .i64)]) 195 (L91 N0 N1) [1, 1, 1, 1, 1] ((subAt c91 [1, 1, 1, 1, 1]).getD .skip) K91))
noncomputable def t91o0 (N0 : Nat) (N1 : Nat) (x : Sh.Ts [(Sh.int IntKind.i64).rows]) (i8 : Int) (i9 : Int) : List AV := [AV.slc 0 0 (List.length x.fst) Cap.low, AV.any, AV.any, AV.val (Value.int IntKind.i64 i8), AV.any, AV.any, AV.any, AV.any, AV.any, AV.slc 0 0 (List.length x.fst) Cap.low, AV.val (Value.int IntKind.i64 (↑(List.length x.fst) : Int)), AV.val (Value.int IntKind.i64 i9), AV.any, AV.any, AV.any, AV.any, AV.any, AV.any, AV.any, AV.any, AV.any, AV.any, AV.any, AV.any, AV.any, AV.any, AV.any, AV.any, AV.any, AV.any, AV.any, AV.any, AV.any, AV.any, AV.any, AV.any]
noncomputable def h91o0 (N0 : Nat) (N1 : Nat) (x : Sh.Ts [(Sh.int IntKind.i64).rows]) (i8 : Int) (i9 : Int) : Heap := [Ent.live (Blk.mk (Cells.arrs (Sh.int IntKind.i64) x.fst) false none)]
noncomputable def tx91o0o0 (N0 : Nat) (N1 : Nat) (x : Sh.Ts [(Sh.int IntKind.i64).rows]) (w11 : Int) : List AV := [AV.slc 0 0 (List.length x.fst) Cap.low, AV.any, AV.any, AV.val (Value.int IntKind.i64 w11), AV.any, AV.any, AV.any, AV.any, AV.any, AV.any, AV.any, AV.any, AV.any, AV.any, AV.any, AV.any, AV.any, AV.any, AV.any, AV.any, AV.any, AV.any, AV.any, AV.any, AV.any, AV.any, AV.any, AV.any, AV.any, AV.any, AV.any, AV.any, AV.any, AV.any, AV.any, AV.any]
noncomputable def hx91o0o0 (N0 : Nat) (N1 : Nat) (x : Sh.Ts [(Sh.int IntKind.i64).rows]) (w11 : Int) : Heap := [Ent.live (Blk.mk (Cells.arrs (Sh.int IntKind.i64) x.fst) false none)]
noncomputable def law91o0 {β : Type} (N0 : Nat) (N1 : Nat) (x : ((List (List Int)) × Unit)) (k0 : Int → Option β) : Nat → Int → Int → Option β
  | 0, _, _ => none
  | n + 1, i8, i9 => (bif decide (i9 < (↑(List.length x.fst) : Int)) then (bif decide (0 ≤ i9) && decide (i9 < (↑(List.length x.fst) : Int)) then (Option.bind x.fst[i9.toNat]? fun v10 => (bif decide (IntKind.i64.wrap (i8 + (↑v10.length : Int)) < 0) then none else law91o0 N0 N1 x k0 n (IntKind.i64.wrap (i8 + (↑v10.length : Int))) (IntKind.i64.wrap (i9 + 1)))) else none) else k0 i8)
theorem leq91o0 {β : Type} (N0 : Nat) (N1 : Nat) (x : Sh.Ts [(Sh.int IntKind.i64).rows]) (K : Exit → List AV → Heap → Option β) : ∀ (n : Nat) (i8 : Int) (i9 : Int), ln91o0 N0 N1 n (t91o0 N0 N1 x i8 i9) (h91o0 N0 N1 x i8 i9) K = law91o0 N0 N1 x (fun w11 => K (Exit.exit 0) (tx91o0o0 N0 N1 x w11) (hx91o0o0 N0 N1 x w11)) n i8 i9
  | 0, _, _ => rfl
  | n + 1, i8, i9 => by
    have h : ln91o0 N0 N1 (n + 1) (t91o0 N0 N1 x i8 i9) (h91o0 N0 N1 x i8 i9) K = (bif decide (i9 < (↑(List.length x.fst) : Int)) then (bif decide (0 ≤ i9) && decide (i9 < (↑(List.length x.fst) : Int)) then (Option.bind (x.fst[0 + i9.toNat]?) fun v10 => (bif decide (IntKind.i64.wrap (i8 + (↑v10.length : Int)) < 0) then none else ln91o0 N0 N1 n (t91o0 N0 N1 x (IntKind.i64.wrap (i8 + (↑v10.length : Int))) (IntKind.i64.wrap (i9 + 1))) (h91o0 N0 N1 x (IntKind.i64.wrap (i8 + (↑v10.length : Int))) (IntKind.i64.wrap (i9 + 1))) K)) else none) else K (Exit.exit 0) (tx91o0o0 N0 N1 x i8) (hx91o0o0 N0 N1 x i8)) := by kernel_rfl
    rw [h]
    simp only [decide_self, decide_true, Nat.zero_add, Bool.and_true, Bool.true_and, cond_true, law91o0, leq91o0 N0 N1 x K n]
noncomputable def t91o1o1 (N0 : Nat) (N1 : Nat) (x : Sh.Ts [(Sh.int IntKind.i64).rows]) (i21 : Nat) (i22 : Int) (i23 : List (Sh.int IntKind.i64).T) : List AV := [AV.any, AV.any, AV.any, AV.any, AV.any, AV.any, AV.slc 1 0 i21 Cap.unk, AV.any, AV.any, AV.any, AV.any, AV.any, AV.any, AV.any, AV.any, AV.any, AV.any, AV.any, AV.any, AV.any, AV.any, AV.any, AV.any, AV.any, AV.any, AV.slc 0 0 (List.length x.fst) Cap.low, AV.val (Value.int IntKind.i64 (↑(List.length x.fst) : Int)), AV.val (Value.int IntKind.i64 i22), AV.any, AV.any, AV.any, AV.any, AV.any, AV.any, AV.any, AV.any]
noncomputable def h91o1o1 (N0 : Nat) (N1 : Nat) (x : Sh.Ts [(Sh.int IntKind.i64).rows]) (i21 : Nat) (i22 : Int) (i23 : List (Sh.int IntKind.i64).T) : Heap := [Ent.live (Blk.mk (Cells.arrs (Sh.int IntKind.i64) x.fst) false none), Ent.live (Blk.mk (Cells.arr (Sh.int IntKind.i64) i23) true (some 1))]
noncomputable def tx91o1o1o0 (N0 : Nat) (N1 : Nat) (x : Sh.Ts [(Sh.int IntKind.i64).rows]) (w25 : Nat) (w26 : List (Sh.int IntKind.i64).T) : List AV := [AV.any, AV.any, AV.any, AV.any, AV.any, AV.any, AV.slc 1 0 w25 Cap.unk, AV.any, AV.any, AV.any, AV.any, AV.any, AV.any, AV.any, AV.any, AV.any, AV.any, AV.any, AV.any, AV.any, AV.any, AV.any, AV.any, AV.any, AV.any, AV.any, AV.any, AV.any, AV.any, AV.any, AV.any, AV.any, AV.any, AV.any, AV.any, AV.any]
noncomputable def hx91o1o1o0 (N0 : Nat) (N1 : Nat) (x : Sh.Ts [(Sh.int IntKind.i64).rows]) (w25 : Nat) (w26 : List (Sh.int IntKind.i64).T) : Heap := [Ent.live (Blk.mk (Cells.arrs (Sh.int IntKind.i64) x.fst) false none), Ent.live (Blk.mk (Cells.arr (Sh.int IntKind.i64) w26) true (some 1))]
noncomputable def law91o1o1 {β : Type} (N0 : Nat) (N1 : Nat) (x : ((List (List Int)) × Unit)) (k0 : Nat → List Int → Option β) : Nat → Nat → Int → List Int → Option β
  | 0, _, _, _ => none
  | n + 1, i21, i22, i23 => (bif decide (i22 < (↑(List.length x.fst) : Int)) then (bif decide (0 ≤ i22) && decide (i22 < (↑(List.length x.fst) : Int)) then (Option.bind x.fst[i22.toNat]? fun v24 => (bif decide (i21 = i23.length) && (decide ((i21 + v24.length) * Try.prog.types[22].bytes ≤ 140737488355328) && decide (i21 + v24.length ≤ 9223372036854775807)) then law91o1o1 N0 N1 x k0 n (i21 + v24.length) (IntKind.i64.wrap (i22 + 1)) (i23.append v24) else none)) else none) else k0 i21 i23)
theorem leq91o1o1 {β : Type} (N0 : Nat) (N1 : Nat) (x : Sh.Ts [(Sh.int IntKind.i64).rows]) (K : Exit → List AV → Heap → Option β) : ∀ (n : Nat) (i21 : Nat) (i22 : Int) (i23 : List (Sh.int IntKind.i64).T), ln91o1 N0 N1 n (t91o1o1 N0 N1 x i21 i22 i23) (h91o1o1 N0 N1 x i21 i22 i23) K = law91o1o1 N0 N1 x (fun w25 w26 => K (Exit.exit 2) (tx91o1o1o0 N0 N1 x w25 w26) (hx91o1o1o0 N0 N1 x w25 w26)) n i21 i22 i23
  | 0, _, _, _ => rfl
  | n + 1, i21, i22, i23 => by
    have h : ln91o1 N0 N1 (n + 1) (t91o1o1 N0 N1 x i21 i22 i23) (h91o1o1 N0 N1 x i21 i22 i23) K = (bif decide (i22 < (↑(List.length x.fst) : Int)) then (bif decide (0 ≤ i22) && decide (i22 < (↑(List.length x.fst) : Int)) then (Option.bind (x.fst[0 + i22.toNat]?) fun v24 => (bif decide (i21 = i23.length) && (decide (v24.length = v24.length) && (decide ((i21 + v24.length) * Try.prog.types[22].bytes ≤ 140737488355328) && decide (i21 + v24.length ≤ 9223372036854775807))) then ln91o1 N0 N1 n (t91o1o1 N0 N1 x (i21 + v24.length) (IntKind.i64.wrap (i22 + 1)) (i23.append v24)) (h91o1o1 N0 N1 x (i21 + v24.length) (IntKind.i64.wrap (i22 + 1)) (i23.append v24)) K else none)) else none) else K (Exit.exit 2) (tx91o1o1o0 N0 N1 x i21 i23) (hx91o1o1o0 N0 N1 x i21 i23)) := by kernel_rfl
    rw [h]
    simp only [decide_self, decide_true, Nat.zero_add, Bool.and_true, Bool.true_and, cond_true, law91o1o1, leq91o1o1 N0 N1 x K n, leq91o0]
noncomputable def t91o1o2 (N0 : Nat) (N1 : Nat) (x : Sh.Ts [(Sh.int IntKind.i64).rows]) (i37 : Nat) (i38 : Int) (i39 : List (Sh.int IntKind.i64).T) : List AV := [AV.any, AV.any, AV.any, AV.any, AV.any, AV.any, AV.slc 1 0 i37 Cap.unk, AV.any, AV.any, AV.any, AV.any, AV.any, AV.any, AV.any, AV.any, AV.any, AV.any, AV.any, AV.any, AV.any, AV.any, AV.any, AV.any, AV.any, AV.any, AV.slc 0 0 (List.length x.fst) Cap.low, AV.val (Value.int IntKind.i64 (↑(List.length x.fst) : Int)), AV.val (Value.int IntKind.i64 i38), AV.any, AV.any, AV.any, AV.any, AV.any, AV.any, AV.any, AV.any]
noncomputable def h91o1o2 (N0 : Nat) (N1 : Nat) (x : Sh.Ts [(Sh.int IntKind.i64).rows]) (i37 : Nat) (i38 : Int) (i39 : List (Sh.int IntKind.i64).T) : Heap := [Ent.live (Blk.mk (Cells.arrs (Sh.int IntKind.i64) x.fst) false none), Ent.live (Blk.mk (Cells.arr (Sh.int IntKind.i64) i39) true (some 1))]
noncomputable def tx91o1o2o0 (N0 : Nat) (N1 : Nat) (x : Sh.Ts [(Sh.int IntKind.i64).rows]) (w41 : Nat) (w42 : List (Sh.int IntKind.i64).T) : List AV := [AV.any, AV.any, AV.any, AV.any, AV.any, AV.any, AV.slc 1 0 w41 Cap.unk, AV.any, AV.any, AV.any, AV.any, AV.any, AV.any, AV.any, AV.any, AV.any, AV.any, AV.any, AV.any, AV.any, AV.any, AV.any, AV.any, AV.any, AV.any, AV.any, AV.any, AV.any, AV.any, AV.any, AV.any, AV.any, AV.any, AV.any, AV.any, AV.any]
noncomputable def hx91o1o2o0 (N0 : Nat) (N1 : Nat) (x : Sh.Ts [(Sh.int IntKind.i64).rows]) (w41 : Nat) (w42 : List (Sh.int IntKind.i64).T) : Heap := [Ent.live (Blk.mk (Cells.arrs (Sh.int IntKind.i64) x.fst) false none), Ent.live (Blk.mk (Cells.arr (Sh.int IntKind.i64) w42) true (some 1))]
noncomputable def law91o1o2 {β : Type} (N0 : Nat) (N1 : Nat) (x : ((List (List Int)) × Unit)) (k0 : Nat → List Int → Option β) : Nat → Nat → Int → List Int → Option β
  | 0, _, _, _ => none
  | n + 1, i37, i38, i39 => (bif decide (i38 < (↑(List.length x.fst) : Int)) then (bif decide (0 ≤ i38) && decide (i38 < (↑(List.length x.fst) : Int)) then (Option.bind x.fst[i38.toNat]? fun v40 => (bif decide (i37 = i39.length) && (decide ((i37 + v40.length) * Try.prog.types[22].bytes ≤ 140737488355328) && decide (i37 + v40.length ≤ 9223372036854775807)) then law91o1o2 N0 N1 x k0 n (i37 + v40.length) (IntKind.i64.wrap (i38 + 1)) (i39.append v40) else none)) else none) else k0 i37 i39)
theorem leq91o1o2 {β : Type} (N0 : Nat) (N1 : Nat) (x : Sh.Ts [(Sh.int IntKind.i64).rows]) (K : Exit → List AV → Heap → Option β) : ∀ (n : Nat) (i37 : Nat) (i38 : Int) (i39 : List (Sh.int IntKind.i64).T), ln91o1 N0 N1 n (t91o1o2 N0 N1 x i37 i38 i39) (h91o1o2 N0 N1 x i37 i38 i39) K = law91o1o2 N0 N1 x (fun w41 w42 => K (Exit.exit 2) (tx91o1o2o0 N0 N1 x w41 w42) (hx91o1o2o0 N0 N1 x w41 w42)) n i37 i38 i39
  | 0, _, _, _ => rfl
  | n + 1, i37, i38, i39 => by
    have h : ln91o1 N0 N1 (n + 1) (t91o1o2 N0 N1 x i37 i38 i39) (h91o1o2 N0 N1 x i37 i38 i39) K = (bif decide (i38 < (↑(List.length x.fst) : Int)) then (bif decide (0 ≤ i38) && decide (i38 < (↑(List.length x.fst) : Int)) then (Option.bind (x.fst[0 + i38.toNat]?) fun v40 => (bif decide (i37 = i39.length) && (decide (v40.length = v40.length) && (decide ((i37 + v40.length) * Try.prog.types[22].bytes ≤ 140737488355328) && decide (i37 + v40.length ≤ 9223372036854775807))) then ln91o1 N0 N1 n (t91o1o2 N0 N1 x (i37 + v40.length) (IntKind.i64.wrap (i38 + 1)) (i39.append v40)) (h91o1o2 N0 N1 x (i37 + v40.length) (IntKind.i64.wrap (i38 + 1)) (i39.append v40)) K else none)) else none) else K (Exit.exit 2) (tx91o1o2o0 N0 N1 x i37 i39) (hx91o1o2o0 N0 N1 x i37 i39)) := by kernel_rfl
    rw [h]
    simp only [decide_self, decide_true, Nat.zero_add, Bool.and_true, Bool.true_and, cond_true, law91o1o2, leq91o1o2 N0 N1 x K n, leq91o0, leq91o1o1]
noncomputable def t91o1o3 (N0 : Nat) (N1 : Nat) (x : Sh.Ts [(Sh.int IntKind.i64).rows]) (i53 : Nat) (i54 : Int) (i55 : List (Sh.int IntKind.i64).T) : List AV := [AV.any, AV.any, AV.any, AV.any, AV.any, AV.any, AV.slc 1 0 i53 Cap.unk, AV.any, AV.any, AV.any, AV.any, AV.any, AV.any, AV.any, AV.any, AV.any, AV.any, AV.any, AV.any, AV.any, AV.any, AV.any, AV.any, AV.any, AV.any, AV.slc 0 0 (List.length x.fst) Cap.low, AV.val (Value.int IntKind.i64 (↑(List.length x.fst) : Int)), AV.val (Value.int IntKind.i64 i54), AV.any, AV.any, AV.any, AV.any, AV.any, AV.any, AV.any, AV.any]
noncomputable def h91o1o3 (N0 : Nat) (N1 : Nat) (x : Sh.Ts [(Sh.int IntKind.i64).rows]) (i53 : Nat) (i54 : Int) (i55 : List (Sh.int IntKind.i64).T) : Heap := [Ent.live (Blk.mk (Cells.arrs (Sh.int IntKind.i64) x.fst) false none), Ent.live (Blk.mk (Cells.arr (Sh.int IntKind.i64) i55) true (some 1))]
noncomputable def tx91o1o3o0 (N0 : Nat) (N1 : Nat) (x : Sh.Ts [(Sh.int IntKind.i64).rows]) (w57 : Nat) (w58 : List (Sh.int IntKind.i64).T) : List AV := [AV.any, AV.any, AV.any, AV.any, AV.any, AV.any, AV.slc 1 0 w57 Cap.unk, AV.any, AV.any, AV.any, AV.any, AV.any, AV.any, AV.any, AV.any, AV.any, AV.any, AV.any, AV.any, AV.any, AV.any, AV.any, AV.any, AV.any, AV.any, AV.any, AV.any, AV.any, AV.any, AV.any, AV.any, AV.any, AV.any, AV.any, AV.any, AV.any]
noncomputable def hx91o1o3o0 (N0 : Nat) (N1 : Nat) (x : Sh.Ts [(Sh.int IntKind.i64).rows]) (w57 : Nat) (w58 : List (Sh.int IntKind.i64).T) : Heap := [Ent.live (Blk.mk (Cells.arrs (Sh.int IntKind.i64) x.fst) false none), Ent.live (Blk.mk (Cells.arr (Sh.int IntKind.i64) w58) true (some 1))]
noncomputable def law91o1o3 {β : Type} (N0 : Nat) (N1 : Nat) (x : ((List (List Int)) × Unit)) (k0 : Nat → List Int → Option β) : Nat → Nat → Int → List Int → Option β
  | 0, _, _, _ => none
  | n + 1, i53, i54, i55 => (bif decide (i54 < (↑(List.length x.fst) : Int)) then (bif decide (0 ≤ i54) && decide (i54 < (↑(List.length x.fst) : Int)) then (Option.bind x.fst[i54.toNat]? fun v56 => (bif decide (i53 = i55.length) && (decide ((i53 + v56.length) * Try.prog.types[22].bytes ≤ 140737488355328) && decide (i53 + v56.length ≤ 9223372036854775807)) then law91o1o3 N0 N1 x k0 n (i53 + v56.length) (IntKind.i64.wrap (i54 + 1)) (i55.append v56) else none)) else none) else k0 i53 i55)
theorem leq91o1o3 {β : Type} (N0 : Nat) (N1 : Nat) (x : Sh.Ts [(Sh.int IntKind.i64).rows]) (K : Exit → List AV → Heap → Option β) : ∀ (n : Nat) (i53 : Nat) (i54 : Int) (i55 : List (Sh.int IntKind.i64).T), ln91o1 N0 N1 n (t91o1o3 N0 N1 x i53 i54 i55) (h91o1o3 N0 N1 x i53 i54 i55) K = law91o1o3 N0 N1 x (fun w57 w58 => K (Exit.exit 2) (tx91o1o3o0 N0 N1 x w57 w58) (hx91o1o3o0 N0 N1 x w57 w58)) n i53 i54 i55
  | 0, _, _, _ => rfl
  | n + 1, i53, i54, i55 => by
    have h : ln91o1 N0 N1 (n + 1) (t91o1o3 N0 N1 x i53 i54 i55) (h91o1o3 N0 N1 x i53 i54 i55) K = (bif decide (i54 < (↑(List.length x.fst) : Int)) then (bif decide (0 ≤ i54) && decide (i54 < (↑(List.length x.fst) : Int)) then (Option.bind (x.fst[0 + i54.toNat]?) fun v56 => (bif decide (i53 = i55.length) && (decide (v56.length = v56.length) && (decide ((i53 + v56.length) * Try.prog.types[22].bytes ≤ 140737488355328) && decide (i53 + v56.length ≤ 9223372036854775807))) then ln91o1 N0 N1 n (t91o1o3 N0 N1 x (i53 + v56.length) (IntKind.i64.wrap (i54 + 1)) (i55.append v56)) (h91o1o3 N0 N1 x (i53 + v56.length) (IntKind.i64.wrap (i54 + 1)) (i55.append v56)) K else none)) else none) else K (Exit.exit 2) (tx91o1o3o0 N0 N1 x i53 i55) (hx91o1o3o0 N0 N1 x i53 i55)) := by kernel_rfl
    rw [h]
    simp only [decide_self, decide_true, Nat.zero_add, Bool.and_true, Bool.true_and, cond_true, law91o1o3, leq91o1o3 N0 N1 x K n, leq91o0, leq91o1o1, leq91o1o2]
theorem rest91o1o1o0 (N0 : Nat) (N1 : Nat) (x : Sh.Ts [(Sh.int IntKind.i64).rows]) (w27 : Nat) (w28 : List (Sh.int IntKind.i64).T) : rk91o1 N0 N1 (Exit.exit 2) (tx91o1o1o0 N0 N1 x w27 w28) (hx91o1o1o0 N0 N1 x w27 w28) = (bif decide (w27 = w28.length) then some w28 else none) := by kernel_rfl
theorem rest91o1o2o0 (N0 : Nat) (N1 : Nat) (x : Sh.Ts [(Sh.int IntKind.i64).rows]) (w43 : Nat) (w44 : List (Sh.int IntKind.i64).T) : rk91o1 N0 N1 (Exit.exit 2) (tx91o1o2o0 N0 N1 x w43 w44) (hx91o1o2o0 N0 N1 x w43 w44) = (bif decide (w43 = w44.length) then some w44 else none) := by kernel_rfl
theorem rest91o0o0 (N0 : Nat) (N1 : Nat) (x : Sh.Ts [(Sh.int IntKind.i64).rows]) (w12 : Int) : rk91o0 N0 N1 (Exit.exit 0) (tx91o0o0 N0 N1 x w12) (hx91o0o0 N0 N1 x w12) = (bif decide (w12 < 0) then none else (bif decide (IntKind.i64.wrap (w12 - IntKind.i64.wrap ((↑0 : Int) - (↑0 : Int))) > 0) then (bif decide (0 < IntKind.i64.wrap (w12 - IntKind.i64.wrap ((↑0 : Int) - (↑0 : Int)))) && (decide ((IntKind.i64.wrap (w12 - IntKind.i64.wrap ((↑0 : Int) - (↑0 : Int)))).toNat * Try.prog.types[22].bytes ≤ 140737488355328) && decide ((IntKind.i64.wrap (w12 - IntKind.i64.wrap ((↑0 : Int) - (↑0 : Int)))).toNat ≤ 9223372036854775807)) then (bif decide (0 < (↑(List.length x.fst) : Int)) then (bif decide (0 ≤ 0) && decide (0 < (↑(List.length x.fst) : Int)) then (Option.bind (x.fst[Int.toNat 0]?) fun v13 => (bif decide (((↑0 : Int).toNat + v13.length) * Try.prog.types[22].bytes ≤ 140737488355328) && decide ((↑0 : Int).toNat + v13.length ≤ 9223372036854775807) then (law91o1o1 N0 N1 x (fun w27 w28 => (bif decide (w27 = w28.length) then some w28 else none)) N1 ((↑0 : Int).toNat + v13.length) (IntKind.i64.wrap (0 + 1)) ([].append v13)) else none)) else none) else none) else none) else (bif decide (0 < (↑(List.length x.fst) : Int)) then (bif decide (0 ≤ 0) && decide (0 < (↑(List.length x.fst) : Int)) then (Option.bind (x.fst[Int.toNat 0]?) fun v29 => (bif (decide (0 = 0) || decide (0 < v29.length)) && (decide ((0 + v29.length) * Try.prog.types[22].bytes ≤ 140737488355328) && decide (0 + v29.length ≤ 9223372036854775807)) then (law91o1o2 N0 N1 x (fun w43 w44 => (bif decide (w43 = w44.length) then some w44 else none)) N1 (0 + v29.length) (IntKind.i64.wrap (0 + 1)) ([].append v29)) else none)) else none) else some []))) := by
  have h : rk91o0 N0 N1 (Exit.exit 0) (tx91o0o0 N0 N1 x w12) (hx91o0o0 N0 N1 x w12) = (bif decide (w12 < 0) then none else (bif decide (IntKind.i64.wrap (w12 - IntKind.i64.wrap ((↑0 : Int) - (↑0 : Int))) > 0) then (bif decide (0 < IntKind.i64.wrap (w12 - IntKind.i64.wrap ((↑0 : Int) - (↑0 : Int)))) && (decide ((IntKind.i64.wrap (w12 - IntKind.i64.wrap ((↑0 : Int) - (↑0 : Int)))).toNat * Try.prog.types[22].bytes ≤ 140737488355328) && decide ((IntKind.i64.wrap (w12 - IntKind.i64.wrap ((↑0 : Int) - (↑0 : Int)))).toNat ≤ 9223372036854775807)) then (bif decide (0 < (↑(List.length x.fst) : Int)) then (bif decide (0 ≤ 0) && decide (0 < (↑(List.length x.fst) : Int)) then (Option.bind (x.fst[0 + Int.toNat 0]?) fun v13 => (bif decide (v13.length = v13.length) && (decide (((↑0 : Int).toNat + v13.length) * Try.prog.types[22].bytes ≤ 140737488355328) && decide ((↑0 : Int).toNat + v13.length ≤ 9223372036854775807)) then (ln91o1 N0 N1 N1 (t91o1o1 N0 N1 x ((↑0 : Int).toNat + v13.length) (IntKind.i64.wrap (0 + 1)) ([].append v13)) (h91o1o1 N0 N1 x ((↑0 : Int).toNat + v13.length) (IntKind.i64.wrap (0 + 1)) ([].append v13)) (rk91o1 N0 N1)) else none)) else none) else none) else none) else (bif decide (0 < (↑(List.length x.fst) : Int)) then (bif decide (0 ≤ 0) && decide (0 < (↑(List.length x.fst) : Int)) then (Option.bind (x.fst[0 + Int.toNat 0]?) fun v29 => (bif decide (v29.length = v29.length) && ((decide (0 = 0) || decide (0 < v29.length)) && (decide ((0 + v29.length) * Try.prog.types[22].bytes ≤ 140737488355328) && decide (0 + v29.length ≤ 9223372036854775807))) then (ln91o1 N0 N1 N1 (t91o1o2 N0 N1 x (0 + v29.length) (IntKind.i64.wrap (0 + 1)) ([].append v29)) (h91o1o2 N0 N1 x (0 + v29.length) (IntKind.i64.wrap (0 + 1)) ([].append v29)) (rk91o1 N0 N1)) else none)) else none) else some []))) := by kernel_rfl
  rw [h]
  simp only [decide_self, decide_true, Nat.zero_add, Bool.and_true, Bool.true_and, cond_true, leq91o0, leq91o1o1, leq91o1o2, leq91o1o3, rest91o1o1o0, rest91o1o2o0]
theorem rest91o1o3o0 (N0 : Nat) (N1 : Nat) (x : Sh.Ts [(Sh.int IntKind.i64).rows]) (w59 : Nat) (w60 : List (Sh.int IntKind.i64).T) : rk91o1 N0 N1 (Exit.exit 2) (tx91o1o3o0 N0 N1 x w59 w60) (hx91o1o3o0 N0 N1 x w59 w60) = (bif decide (w59 = w60.length) then some w60 else none) := by kernel_rfl
noncomputable def law91 (N0 : Nat) (N1 : Nat) (x : ((List (List Int)) × Unit)) : Option (List Int) := (bif decide (0 < (↑(List.length x.fst) : Int)) then (bif decide (0 ≤ 0) && decide (0 < (↑(List.length x.fst) : Int)) then (Option.bind (x.fst[Int.toNat 0]?) fun v0 => (bif decide (IntKind.i64.wrap (0 + (↑v0.length : Int)) < 0) then none else (law91o0 N0 N1 x (fun w12 => (bif decide (w12 < 0) then none else (bif decide (IntKind.i64.wrap (w12 - IntKind.i64.wrap ((↑0 : Int) - (↑0 : Int))) > 0) then (bif decide (0 < IntKind.i64.wrap (w12 - IntKind.i64.wrap ((↑0 : Int) - (↑0 : Int)))) && (decide ((IntKind.i64.wrap (w12 - IntKind.i64.wrap ((↑0 : Int) - (↑0 : Int)))).toNat * Try.prog.types[22].bytes ≤ 140737488355328) && decide ((IntKind.i64.wrap (w12 - IntKind.i64.wrap ((↑0 : Int) - (↑0 : Int)))).toNat ≤ 9223372036854775807)) then (bif decide (0 < (↑(List.length x.fst) : Int)) then (bif decide (0 ≤ 0) && decide (0 < (↑(List.length x.fst) : Int)) then (Option.bind (x.fst[Int.toNat 0]?) fun v13 => (bif decide (((↑0 : Int).toNat + v13.length) * Try.prog.types[22].bytes ≤ 140737488355328) && decide ((↑0 : Int).toNat + v13.length ≤ 9223372036854775807) then (law91o1o1 N0 N1 x (fun w27 w28 => (bif decide (w27 = w28.length) then some w28 else none)) N1 ((↑0 : Int).toNat + v13.length) (IntKind.i64.wrap (0 + 1)) ([].append v13)) else none)) else none) else none) else none) else (bif decide (0 < (↑(List.length x.fst) : Int)) then (bif decide (0 ≤ 0) && decide (0 < (↑(List.length x.fst) : Int)) then (Option.bind (x.fst[Int.toNat 0]?) fun v29 => (bif (decide (0 = 0) || decide (0 < v29.length)) && (decide ((0 + v29.length) * Try.prog.types[22].bytes ≤ 140737488355328) && decide (0 + v29.length ≤ 9223372036854775807)) then (law91o1o2 N0 N1 x (fun w43 w44 => (bif decide (w43 = w44.length) then some w44 else none)) N1 (0 + v29.length) (IntKind.i64.wrap (0 + 1)) ([].append v29)) else none)) else none) else some [])))) N0 (IntKind.i64.wrap (0 + (↑v0.length : Int))) (IntKind.i64.wrap (0 + 1))))) else none) else (bif decide (0 < (↑(List.length x.fst) : Int)) then (bif decide (0 ≤ 0) && decide (0 < (↑(List.length x.fst) : Int)) then (Option.bind (x.fst[Int.toNat 0]?) fun v45 => (bif (decide (0 = 0) || decide (0 < v45.length)) && (decide ((0 + v45.length) * Try.prog.types[22].bytes ≤ 140737488355328) && decide (0 + v45.length ≤ 9223372036854775807)) then (law91o1o3 N0 N1 x (fun w59 w60 => (bif decide (w59 = w60.length) then some w60 else none)) N1 (0 + v45.length) (IntKind.i64.wrap (0 + 1)) ([].append v45)) else none)) else none) else some []))
theorem eq91 (N0 : Nat) (N1 : Nat) (x : Sh.Ts [(Sh.int IntKind.i64).rows]) : codeLawF Try.prog env91 200 (L91 N0 N1) Try.f91 c91 [.rows (.int .i64)] (.int .i64) x = law91 N0 N1 x := by
  have h : codeLawF Try.prog env91 200 (L91 N0 N1) Try.f91 c91 [.rows (.int .i64)] (.int .i64) x = (bif decide (0 < (↑(List.length x.fst) : Int)) then (bif decide (0 ≤ 0) && decide (0 < (↑(List.length x.fst) : Int)) then (Option.bind (x.fst[0 + Int.toNat 0]?) fun v0 => (bif decide (IntKind.i64.wrap (0 + (↑v0.length : Int)) < 0) then none else (ln91o0 N0 N1 N0 (t91o0 N0 N1 x (IntKind.i64.wrap (0 + (↑v0.length : Int))) (IntKind.i64.wrap (0 + 1))) (h91o0 N0 N1 x (IntKind.i64.wrap (0 + (↑v0.length : Int))) (IntKind.i64.wrap (0 + 1))) (rk91o0 N0 N1)))) else none) else (bif decide (0 < (↑(List.length x.fst) : Int)) then (bif decide (0 ≤ 0) && decide (0 < (↑(List.length x.fst) : Int)) then (Option.bind (x.fst[0 + Int.toNat 0]?) fun v45 => (bif decide (v45.length = v45.length) && ((decide (0 = 0) || decide (0 < v45.length)) && (decide ((0 + v45.length) * Try.prog.types[22].bytes ≤ 140737488355328) && decide (0 + v45.length ≤ 9223372036854775807))) then (ln91o1 N0 N1 N1 (t91o1o3 N0 N1 x (0 + v45.length) (IntKind.i64.wrap (0 + 1)) ([].append v45)) (h91o1o3 N0 N1 x (0 + v45.length) (IntKind.i64.wrap (0 + 1)) ([].append v45)) (rk91o1 N0 N1)) else none)) else none) else some [])) := by kernel_rfl
  rw [h]
  unfold law91
  simp only [decide_self, decide_true, Nat.zero_add, Bool.and_true, Bool.true_and, cond_true, leq91o0, leq91o1o1, leq91o1o2, leq91o1o3, rest91o1o1o0, rest91o1o2o0, rest91o0o0, rest91o1o3o0]
noncomputable def fn91 (x : ((List (List Int)) × Unit)) : Option (List (Int)) := law91 (10 ^ 30) (10 ^ 30) x
theorem reads91 : ReadsF Try.prog 91 [.rows (.int .i64)] (.int .i64) fn91 := (ReadsF.of_code mixed (fn := Try.f91) (c := c91) Try.func91 (by kernel_rfl) (by kernel_rfl) env91 200 (L91_fit _ _)).to (eq91 _ _)
noncomputable def s91 : Summ Try.prog := reads91.summ
/- slices.Min[[]chicane/api.Fx,chicane/api.Fx] -/
noncomputable def c92 : Code := (Try.f92.body.getD .skip)
noncomputable def env92 : Env Try.prog := ⟨[], none⟩
noncomputable def b92o0 : Code := ((kid ((subAt c92 [0, 1, 0, 1, 1, 1]).getD .skip) 0).getD .skip)
noncomputable def kx92o0 : Exit → List Nat | .ret => [2] | .exit 0 => [3] | _ => []
noncomputable def Li92o0 (N0 : Nat) : Loops Try.prog := []
noncomputable def ls92o0 (N0 : Nat) : LSumm Try.prog := loopSumm mixed env92 200 (Li92o0 N0) b92o0 (Loops.fit_nil) [0, 3, 4] kx92o0 (N0)
noncomputable def ln92o0 {β : Type} (N0 : Nat) (n : Nat) (t : List AV) (h : Heap) (K : Exit → List AV → Heap → Option β) : Option β := loopN Try.prog env92 (Sh.nes [.sl (.int .i64)]) 200 (Li92o0 N0) b92o0 [0, 3, 4] kx92o0 n t h K
noncomputable def L92 (N0 : Nat) : Loops Try.prog := [([0, 1, 0, 1, 1, 1], ls92o0 N0)]
theorem L92_fit (N0 : Nat) : (L92 N0).fit c92 := Loops.fit_cons (by kernel_rfl) (Loops.fit_nil)
noncomputable def K92 : Exit → List AV → Heap → Option (Sh.Ts [.int .i64]) := fun e t h => outK (P := Try.prog) Try.f92 [.int .i64] e t h
noncomputable def rk92o0 (N0 : Nat) : Exit → List AV → Heap → Option (Sh.Ts [.int .i64]) := (blkK 0 (seqK Try.prog env92 (Sh.nes [.sl (.int .i64)]) 196 (L92 N0) [1, 1, 1, 1] ((subAt c92 [1, 1, 1, 1]).getD .skip) K92))
noncomputable def t92o0 (N0 : Nat) (x : Sh.Ts [(Sh.int IntKind.i64).sl]) (i6 : (Sh.int IntKind.i64).T) (i7 : Int) : List AV := [AV.slc 0 0 (List.length x.fst) Cap.low, AV.any, AV.any, AV.val (Value.int IntKind.i64 i6), AV.val (Value.int IntKind.i64 i7), AV.any, AV.any, AV.any, AV.any, AV.any, AV.any, AV.any, AV.any, AV.any, AV.any, AV.any, AV.any, AV.any, AV.any, AV.any, AV.any, AV.any, AV.any, AV.any, AV.any]
noncomputable def h92o0 (N0 : Nat) (x : Sh.Ts [(Sh.int IntKind.i64).sl]) (i6 : (Sh.int IntKind.i64).T) (i7 : Int) : Heap := [Ent.live (Blk.mk (Cells.arr (Sh.int IntKind.i64) x.fst) false none)]
noncomputable def tx92o0o0 (N0 : Nat) (x : Sh.Ts [(Sh.int IntKind.i64).sl]) (w9 : (Sh.int IntKind.i64).T) : List AV := [AV.any, AV.any, AV.any, AV.val (Value.int IntKind.i64 w9), AV.any, AV.any, AV.any, AV.any, AV.any, AV.any, AV.any, AV.any, AV.any, AV.any, AV.any, AV.any, AV.any, AV.any, AV.any, AV.any, AV.any, AV.any, AV.any, AV.any, AV.any]
noncomputable def hx92o0o0 (N0 : Nat) (x : Sh.Ts [(Sh.int IntKind.i64).sl]) (w9 : (Sh.int IntKind.i64).T) : Heap := [Ent.live (Blk.mk (Cells.arr (Sh.int IntKind.i64) x.fst) false none)]
noncomputable def law92o0 {β : Type} (N0 : Nat) (x : ((List Int) × Unit)) (k0 : Int → Option β) : Nat → Int → Int → Option β
  | 0, _, _ => none
  | n + 1, i6, i7 => (bif decide (i7 < (↑(List.length x.fst) : Int)) then (bif decide (0 ≤ i7) && decide (i7 < (↑(List.length x.fst) : Int)) then (Option.bind x.fst[i7.toNat]? fun v8 => law92o0 N0 x k0 n (if v8 < i6 then v8 else i6) (IntKind.i64.wrap (i7 + 1))) else none) else k0 i6)
theorem leq92o0 {β : Type} (N0 : Nat) (x : Sh.Ts [(Sh.int IntKind.i64).sl]) (K : Exit → List AV → Heap → Option β) : ∀ (n : Nat) (i6 : (Sh.int IntKind.i64).T) (i7 : Int), ln92o0 N0 n (t92o0 N0 x i6 i7) (h92o0 N0 x i6 i7) K = law92o0 N0 x (fun w9 => K (Exit.exit 0) (tx92o0o0 N0 x w9) (hx92o0o0 N0 x w9)) n i6 i7
  | 0, _, _ => rfl
  | n + 1, i6, i7 => by
    have h : ln92o0 N0 (n + 1) (t92o0 N0 x i6 i7) (h92o0 N0 x i6 i7) K = (bif decide (i7 < (↑(List.length x.fst) : Int)) then (bif decide (0 ≤ i7) && decide (i7 < (↑(List.length x.fst) : Int)) then (Option.bind (x.fst[0 + i7.toNat]?) fun v8 => ln92o0 N0 n (t92o0 N0 x (if v8 < i6 then v8 else i6) (IntKind.i64.wrap (i7 + 1))) (h92o0 N0 x (if v8 < i6 then v8 else i6) (IntKind.i64.wrap (i7 + 1))) K) else none) else K (Exit.exit 0) (tx92o0o0 N0 x i6) (hx92o0o0 N0 x i6)) := by kernel_rfl
    rw [h]
    simp only [decide_self, decide_true, Nat.zero_add, Bool.and_true, Bool.true_and, cond_true, law92o0, leq92o0 N0 x K n]
theorem rest92o0o0 (N0 : Nat) (x : Sh.Ts [(Sh.int IntKind.i64).sl]) (w10 : (Sh.int IntKind.i64).T) : rk92o0 N0 (Exit.exit 0) (tx92o0o0 N0 x w10) (hx92o0o0 N0 x w10) = some ((w10, ())) := by kernel_rfl
noncomputable def law92 (N0 : Nat) (x : ((List Int) × Unit)) : Option ((Int × Unit)) := (bif decide ((↑(List.length x.fst) : Int) < 1) then none else (bif decide (0 ≤ 0) && decide (0 < (↑(List.length x.fst) : Int)) then (Option.bind (x.fst[Int.toNat 0]?) fun v0 => (law92o0 N0 x (fun w10 => some ((w10, ()))) N0 v0 1)) else none))
theorem eq92 (N0 : Nat) (x : Sh.Ts [(Sh.int IntKind.i64).sl]) : codeLaw Try.prog env92 200 (L92 N0) Try.f92 c92 [.sl (.int .i64)] [.int .i64] x = law92 N0 x := by
  have h : codeLaw Try.prog env92 200 (L92 N0) Try.f92 c92 [.sl (.int .i64)] [.int .i64] x = (bif decide ((↑(List.length x.fst) : Int) < 1) then none else (bif decide (0 ≤ 0) && decide (0 < (↑(List.length x.fst) : Int)) then (Option.bind (x.fst[0 + Int.toNat 0]?) fun v0 => (ln92o0 N0 N0 (t92o0 N0 x v0 1) (h92o0 N0 x v0 1) (rk92o0 N0))) else none)) := by kernel_rfl
  rw [h]
  unfold law92
  simp only [decide_self, decide_true, Nat.zero_add, Bool.and_true, Bool.true_and, cond_true, leq92o0, rest92o0o0]
noncomputable def fn92 (x : ((List Int) × Unit)) : Option ((Int × Unit)) := law92 (10 ^ 30) x
theorem reads92 : Reads Try.prog 92 [.sl (.int .i64)] [.int .i64] fn92 := (Reads.of_code mixed (fn := Try.f92) (c := c92) Try.func92 (by kernel_rfl) (by kernel_rfl) env92 200 (L92_fit _) (by kernel_rfl)).to (eq92 _)
noncomputable def s92 : Summ Try.prog := reads92.summ
/- slices.Max[[]chicane/api.Fx,chicane/api.Fx] -/
noncomputable def c93 : Code := (Try.f93.body.getD .skip)
noncomputable def env93 : Env Try.prog := ⟨[], none⟩
noncomputable def b93o0 : Code := ((kid ((subAt c93 [0, 1, 0, 1, 1, 1]).getD .skip) 0).getD .skip)
noncomputable def kx93o0 : Exit → List Nat | .ret => [2] | .exit 0 => [3] | _ => []
noncomputable def Li93o0 (N0 : Nat) : Loops Try.prog := []
noncomputable def ls93o0 (N0 : Nat) : LSumm Try.prog := loopSumm mixed env93 200 (Li93o0 N0) b93o0 (Loops.fit_nil) [0, 3, 4] kx93o0 (N0)
noncomputable def ln93o0 {β : Type} (N0 : Nat) (n : Nat) (t : List AV) (h : Heap) (K : Exit → List AV → Heap → Option β) : Option β := loopN Try.prog env93 (Sh.nes [.sl (.int .i64)]) 200 (Li93o0 N0) b93o0 [0, 3, 4] kx93o0 n t h K
noncomputable def L93 (N0 : Nat) : Loops Try.prog := [([0, 1, 0, 1, 1, 1], ls93o0 N0)]
theorem L93_fit (N0 : Nat) : (L93 N0).fit c93 := Loops.fit_cons (by kernel_rfl) (Loops.fit_nil)
noncomputable def K93 : Exit → List AV → Heap → Option (Sh.Ts [.int .i64]) := fun e t h => outK (P := Try.prog) Try.f93 [.int .i64] e t h
noncomputable def rk93o0 (N0 : Nat) : Exit → List AV → Heap → Option (Sh.Ts [.int .i64]) := (blkK 0 (seqK Try.prog env93 (Sh.nes [.sl (.int .i64)]) 196 (L93 N0) [1, 1, 1, 1] ((subAt c93 [1, 1, 1, 1]).getD .skip) K93))
noncomputable def t93o0 (N0 : Nat) (x : Sh.Ts [(Sh.int IntKind.i64).sl]) (i6 : (Sh.int IntKind.i64).T) (i7 : Int) : List AV := [AV.slc 0 0 (List.length x.fst) Cap.low, AV.any, AV.any, AV.val (Value.int IntKind.i64 i6), AV.val (Value.int IntKind.i64 i7), AV.any, AV.any, AV.any, AV.any, AV.any, AV.any, AV.any, AV.any, AV.any, AV.any, AV.any, AV.any, AV.any, AV.any, AV.any, AV.any, AV.any, AV.any, AV.any, AV.any]
noncomputable def h93o0 (N0 : Nat) (x : Sh.Ts [(Sh.int IntKind.i64).sl]) (i6 : (Sh.int IntKind.i64).T) (i7 : Int) : Heap := [Ent.live (Blk.mk (Cells.arr (Sh.int IntKind.i64) x.fst) false none)]
noncomputable def tx93o0o0 (N0 : Nat) (x : Sh.Ts [(Sh.int IntKind.i64).sl]) (w9 : (Sh.int IntKind.i64).T) : List AV := [AV.any, AV.any, AV.any, AV.val (Value.int IntKind.i64 w9), AV.any, AV.any, AV.any, AV.any, AV.any, AV.any, AV.any, AV.any, AV.any, AV.any, AV.any, AV.any, AV.any, AV.any, AV.any, AV.any, AV.any, AV.any, AV.any, AV.any, AV.any]
noncomputable def hx93o0o0 (N0 : Nat) (x : Sh.Ts [(Sh.int IntKind.i64).sl]) (w9 : (Sh.int IntKind.i64).T) : Heap := [Ent.live (Blk.mk (Cells.arr (Sh.int IntKind.i64) x.fst) false none)]
noncomputable def law93o0 {β : Type} (N0 : Nat) (x : ((List Int) × Unit)) (k0 : Int → Option β) : Nat → Int → Int → Option β
  | 0, _, _ => none
  | n + 1, i6, i7 => (bif decide (i7 < (↑(List.length x.fst) : Int)) then (bif decide (0 ≤ i7) && decide (i7 < (↑(List.length x.fst) : Int)) then (Option.bind x.fst[i7.toNat]? fun v8 => law93o0 N0 x k0 n (if v8 > i6 then v8 else i6) (IntKind.i64.wrap (i7 + 1))) else none) else k0 i6)
theorem leq93o0 {β : Type} (N0 : Nat) (x : Sh.Ts [(Sh.int IntKind.i64).sl]) (K : Exit → List AV → Heap → Option β) : ∀ (n : Nat) (i6 : (Sh.int IntKind.i64).T) (i7 : Int), ln93o0 N0 n (t93o0 N0 x i6 i7) (h93o0 N0 x i6 i7) K = law93o0 N0 x (fun w9 => K (Exit.exit 0) (tx93o0o0 N0 x w9) (hx93o0o0 N0 x w9)) n i6 i7
  | 0, _, _ => rfl
  | n + 1, i6, i7 => by
    have h : ln93o0 N0 (n + 1) (t93o0 N0 x i6 i7) (h93o0 N0 x i6 i7) K = (bif decide (i7 < (↑(List.length x.fst) : Int)) then (bif decide (0 ≤ i7) && decide (i7 < (↑(List.length x.fst) : Int)) then (Option.bind (x.fst[0 + i7.toNat]?) fun v8 => ln93o0 N0 n (t93o0 N0 x (if v8 > i6 then v8 else i6) (IntKind.i64.wrap (i7 + 1))) (h93o0 N0 x (if v8 > i6 then v8 else i6) (IntKind.i64.wrap (i7 + 1))) K) else none) else K (Exit.exit 0) (tx93o0o0 N0 x i6) (hx93o0o0 N0 x i6)) := by kernel_rfl
    rw [h]
    simp only [decide_self, decide_true, Nat.zero_add, Bool.and_true, Bool.true_and, cond_true, law93o0, leq93o0 N0 x K n]
theorem rest93o0o0 (N0 : Nat) (x : Sh.Ts [(Sh.int IntKind.i64).sl]) (w10 : (Sh.int IntKind.i64).T) : rk93o0 N0 (Exit.exit 0) (tx93o0o0 N0 x w10) (hx93o0o0 N0 x w10) = some ((w10, ())) := by kernel_rfl
noncomputable def law93 (N0 : Nat) (x : ((List Int) × Unit)) : Option ((Int × Unit)) := (bif decide ((↑(List.length x.fst) : Int) < 1) then none else (bif decide (0 ≤ 0) && decide (0 < (↑(List.length x.fst) : Int)) then (Option.bind (x.fst[Int.toNat 0]?) fun v0 => (law93o0 N0 x (fun w10 => some ((w10, ()))) N0 v0 1)) else none))
theorem eq93 (N0 : Nat) (x : Sh.Ts [(Sh.int IntKind.i64).sl]) : codeLaw Try.prog env93 200 (L93 N0) Try.f93 c93 [.sl (.int .i64)] [.int .i64] x = law93 N0 x := by
  have h : codeLaw Try.prog env93 200 (L93 N0) Try.f93 c93 [.sl (.int .i64)] [.int .i64] x = (bif decide ((↑(List.length x.fst) : Int) < 1) then none else (bif decide (0 ≤ 0) && decide (0 < (↑(List.length x.fst) : Int)) then (Option.bind (x.fst[0 + Int.toNat 0]?) fun v0 => (ln93o0 N0 N0 (t93o0 N0 x v0 1) (h93o0 N0 x v0 1) (rk93o0 N0))) else none)) := by kernel_rfl
  rw [h]
  unfold law93
  simp only [decide_self, decide_true, Nat.zero_add, Bool.and_true, Bool.true_and, cond_true, leq93o0, rest93o0o0]
noncomputable def fn93 (x : ((List Int) × Unit)) : Option ((Int × Unit)) := law93 (10 ^ 30) x
theorem reads93 : Reads Try.prog 93 [.sl (.int .i64)] [.int .i64] fn93 := (Reads.of_code mixed (fn := Try.f93) (c := c93) Try.func93 (by kernel_rfl) (by kernel_rfl) env93 200 (L93_fit _) (by kernel_rfl)).to (eq93 _)
noncomputable def s93 : Summ Try.prog := reads93.summ
/- chicane/pane.Bounds -/
noncomputable def c74 : Code := (Try.f74.body.getD .skip)
noncomputable def env74 : Env Try.prog := ⟨[s42, s91, s92, s93], none⟩
noncomputable def L74 : Loops Try.prog := []
theorem L74_fit : (L74).fit c74 := Loops.fit_nil
noncomputable def law74 (x : (PaneT × Unit)) : Option ((Int × Int × Unit)) := (Option.bind (fn42 x) fun v0 => (bif v0.fst != 0 then some ((0, 0, ())) else (Option.bind (fn91 x.fst.snd.snd) fun v1 => (Option.bind (fn92 (v1, ())) fun v2 => (Option.bind (fn93 (v1, ())) fun v3 => some ((v2.fst, v3.fst, ())))))))
theorem eq74 (x : Sh.Ts [PaneSh]) : codeLaw Try.prog env74 200 (L74) Try.f74 c74 [PaneSh] [.int .i64, .int .i64] x = law74 x := by
  have h : codeLaw Try.prog env74 200 (L74) Try.f74 c74 [PaneSh] [.int .i64, .int .i64] x = (bif decide (List.length x.fst.fst = List.length x.fst.fst) && (decide (List.length x.fst.snd.fst = List.length x.fst.snd.fst) && (decide (List.length x.fst.snd.snd.fst = List.length x.fst.snd.snd.fst) && true)) && true then (Option.bind (fn42 x) fun v0 => (bif v0.fst != 0 then some ((0, 0, ())) else (bif decide (List.length x.fst.snd.snd.fst = List.length x.fst.snd.snd.fst) && true then (Option.bind (fn91 x.fst.snd.snd) fun v1 => (bif decide (v1.length = v1.length) && true then (Option.bind (fn92 (v1, ())) fun v2 => (bif decide (v1.length = v1.length) && true then (Option.bind (fn93 (v1, ())) fun v3 => some ((v2.fst, v3.fst, ()))) else none)) else none)) else none))) else none) := by kernel_rfl
  rw [h]
  unfold law74
  simp only [decide_self, decide_true, Nat.zero_add, Bool.and_true, Bool.true_and, cond_true]
noncomputable def fn74 (x : (PaneT × Unit)) : Option ((Int × Int × Unit)) := law74 x
theorem reads74 : Reads Try.prog 74 [PaneSh] [.int .i64, .int .i64] fn74 := (Reads.of_code mixed (fn := Try.f74) (c := c74) Try.func74 (by kernel_rfl) (by kernel_rfl) env74 200 (L74_fit) (by kernel_rfl)).to (eq74)
noncomputable def s74 : Summ Try.prog := reads74.summ
/- chicane/car.tyre -/
noncomputable def c54 : Code := (Try.f54.body.getD .skip)
noncomputable def env54 : Env Try.prog := ⟨[s42, s74, s51], none⟩
noncomputable def L54 : Loops Try.prog := []
theorem L54_fit : (L54).fit c54 := Loops.fit_nil
noncomputable def law54 (x : (PaneT × Unit)) : Option ((Int × Unit)) := (Option.bind (fn42 x) fun v0 => (bif v0.fst != 0 then some ((v0.fst, ())) else (Option.bind (fn74 x) fun v1 => (bif decide (0 ≤ 0) && decide (0 < (↑(List.length x.fst.fst) : Int)) then (Option.bind (x.fst.fst[Int.toNat 0]?) fun v2 => (bif decide (0 ≤ 0) && decide (0 < (↑(List.length x.fst.snd.fst) : Int)) then (Option.bind (x.fst.snd.fst[Int.toNat 0]?) fun v3 => (Option.bind (fn51 ([(if v1.fst < if v3 < v2 then v3 else v2 then v1.fst else if v3 < v2 then v3 else v2, 0, 18014398509481984, ()), (v1.snd.fst, 0, 17179869184, ())], ())) fun v4 => some ((v4.fst, ())))) else none)) else none))))
theorem eq54 (x : Sh.Ts [PaneSh]) : codeLaw Try.prog env54 200 (L54) Try.f54 c54 [PaneSh] [.int .i64] x = law54 x := by
  have h : codeLaw Try.prog env54 200 (L54) Try.f54 c54 [PaneSh] [.int .i64] x = (bif decide (List.length x.fst.fst = List.length x.fst.fst) && (decide (List.length x.fst.snd.fst = List.length x.fst.snd.fst) && (decide (List.length x.fst.snd.snd.fst = List.length x.fst.snd.snd.fst) && true)) && true then (Option.bind (fn42 x) fun v0 => (bif v0.fst != 0 then some ((v0.fst, ())) else (bif decide (List.length x.fst.fst = List.length x.fst.fst) && (decide (List.length x.fst.snd.fst = List.length x.fst.snd.fst) && (decide (List.length x.fst.snd.snd.fst = List.length x.fst.snd.snd.fst) && true)) && true then (Option.bind (fn74 x) fun v1 => (bif decide (0 ≤ 0) && decide (0 < (↑(List.length x.fst.fst) : Int)) then (Option.bind (x.fst.fst[0 + Int.toNat 0]?) fun v2 => (bif decide (0 ≤ 0) && decide (0 < (↑(List.length x.fst.snd.fst) : Int)) then (Option.bind (x.fst.snd.fst[0 + Int.toNat 0]?) fun v3 => (Option.bind (fn51 ([(if v1.fst < if v3 < v2 then v3 else v2 then v1.fst else if v3 < v2 then v3 else v2, 0, 18014398509481984, ()), (v1.snd.fst, 0, 17179869184, ())], ())) fun v4 => some ((v4.fst, ())))) else none)) else none)) else none))) else none) := by kernel_rfl
  rw [h]
  unfold law54
  simp only [decide_self, decide_true, Nat.zero_add, Bool.and_true, Bool.true_and, cond_true]
noncomputable def fn54 (x : (PaneT × Unit)) : Option ((Int × Unit)) := law54 x
theorem reads54 : Reads Try.prog 54 [PaneSh] [.int .i64] fn54 := (Reads.of_code mixed (fn := Try.f54) (c := c54) Try.func54 (by kernel_rfl) (by kernel_rfl) env54 200 (L54_fit) (by kernel_rfl)).to (eq54)
noncomputable def s54 : Summ Try.prog := reads54.summ
/- chicane/car.above -/
noncomputable def c76 : Code := (Try.f76.body.getD .skip)
noncomputable def env76 : Env Try.prog := ⟨[], none⟩
noncomputable def L76 : Loops Try.prog := []
theorem L76_fit : (L76).fit c76 := Loops.fit_nil
noncomputable def law76 (x : (Int × Int × Unit)) : Option ((Int × Unit)) := (bif decide (x.fst ≤ x.snd.fst) then some ((41, ())) else some ((0, ())))
theorem eq76 (x : Sh.Ts [Sh.int IntKind.i64, Sh.int IntKind.i64]) : codeLaw Try.prog env76 200 (L76) Try.f76 c76 [.int .i64, .int .i64] [.int .i64] x = law76 x := by kernel_rfl
noncomputable def fn76 (x : (Int × Int × Unit)) : Option ((Int × Unit)) := law76 x
theorem reads76 : Reads Try.prog 76 [.int .i64, .int .i64] [.int .i64] fn76 := (Reads.of_code mixed (fn := Try.f76) (c := c76) Try.func76 (by kernel_rfl) (by kernel_rfl) env76 200 (L76_fit) (by kernel_rfl)).to (eq76)
noncomputable def s76 : Summ Try.prog := reads76.summ
/- chicane/car.first -/
noncomputable def c75 : Code := (Try.f75.body.getD .skip)
noncomputable def env75 : Env Try.prog := ⟨[], none⟩
noncomputable def b75o0 : Code := ((kid ((subAt c75 [0, 1, 0, 1]).getD .skip) 0).getD .skip)
noncomputable def kx75o0 : Exit → List Nat | .ret => [2] | _ => []
noncomputable def Li75o0 (N0 : Nat) : Loops Try.prog := []
noncomputable def ls75o0 (N0 : Nat) : LSumm Try.prog := loopSumm mixed env75 200 (Li75o0 N0) b75o0 (Loops.fit_nil) [5, 6, 7] kx75o0 (N0)
noncomputable def ln75o0 {β : Type} (N0 : Nat) (n : Nat) (t : List AV) (h : Heap) (K : Exit → List AV → Heap → Option β) : Option β := loopN Try.prog env75 (Sh.nes [.sl (.int .i64)]) 200 (Li75o0 N0) b75o0 [5, 6, 7] kx75o0 n t h K
noncomputable def L75 (N0 : Nat) : Loops Try.prog := [([0, 1, 0, 1], ls75o0 N0)]
theorem L75_fit (N0 : Nat) : (L75 N0).fit c75 := Loops.fit_cons (by kernel_rfl) (Loops.fit_nil)
noncomputable def K75 : Exit → List AV → Heap → Option (Sh.Ts [.int .i64]) := fun e t h => outK (P := Try.prog) Try.f75 [.int .i64] e t h
noncomputable def rk75o0 (N0 : Nat) : Exit → List AV → Heap → Option (Sh.Ts [.int .i64]) := (blkK 0 (seqK Try.prog env75 (Sh.nes [.sl (.int .i64)]) 198 (L75 N0) [1, 1] ((subAt c75 [1, 1]).getD .skip) K75))
noncomputable def t75o0 (N0 : Nat) (x : Sh.Ts [(Sh.int IntKind.i64).sl]) (i5 : Int) : List AV := [AV.any, AV.any, AV.any, AV.any, AV.any, AV.slc 0 0 (List.length x.fst) Cap.low, AV.val (Value.int IntKind.i64 (↑(List.length x.fst) : Int)), AV.val (Value.int IntKind.i64 i5), AV.any, AV.any, AV.any, AV.any, AV.any, AV.any, AV.any]
noncomputable def h75o0 (N0 : Nat) (x : Sh.Ts [(Sh.int IntKind.i64).sl]) (i5 : Int) : Heap := [Ent.live (Blk.mk (Cells.arr (Sh.int IntKind.i64) x.fst) false none)]
noncomputable def tx75o0o0 (N0 : Nat) (x : Sh.Ts [(Sh.int IntKind.i64).sl]) (w7 : (Sh.int IntKind.i64).T) : List AV := [AV.any, AV.any, AV.val (Value.int IntKind.i64 w7), AV.any, AV.any, AV.any, AV.any, AV.any, AV.any, AV.any, AV.any, AV.any, AV.any, AV.any, AV.any]
noncomputable def hx75o0o0 (N0 : Nat) (x : Sh.Ts [(Sh.int IntKind.i64).sl]) (w7 : (Sh.int IntKind.i64).T) : Heap := [Ent.live (Blk.mk (Cells.arr (Sh.int IntKind.i64) x.fst) false none)]
noncomputable def tx75o0o1 (N0 : Nat) (x : Sh.Ts [(Sh.int IntKind.i64).sl]) : List AV := [AV.any, AV.any, AV.any, AV.any, AV.any, AV.any, AV.any, AV.any, AV.any, AV.any, AV.any, AV.any, AV.any, AV.any, AV.any]
noncomputable def hx75o0o1 (N0 : Nat) (x : Sh.Ts [(Sh.int IntKind.i64).sl]) : Heap := [Ent.live (Blk.mk (Cells.arr (Sh.int IntKind.i64) x.fst) false none)]
noncomputable def law75o0 {β : Type} (N0 : Nat) (x : ((List Int) × Unit)) (k0 : Int → Option β) (k1 : Option β) : Nat → Int → Option β
  | 0, _ => none
  | n + 1, i5 => (bif decide (i5 < (↑(List.length x.fst) : Int)) then (bif decide (0 ≤ i5) && decide (i5 < (↑(List.length x.fst) : Int)) then (Option.bind x.fst[i5.toNat]? fun v6 => (bif v6 != 0 then k0 v6 else law75o0 N0 x k0 k1 n (IntKind.i64.wrap (i5 + 1)))) else none) else k1)
theorem leq75o0 {β : Type} (N0 : Nat) (x : Sh.Ts [(Sh.int IntKind.i64).sl]) (K : Exit → List AV → Heap → Option β) : ∀ (n : Nat) (i5 : Int), ln75o0 N0 n (t75o0 N0 x i5) (h75o0 N0 x i5) K = law75o0 N0 x (fun w7 => K (Exit.ret) (tx75o0o0 N0 x w7) (hx75o0o0 N0 x w7)) (K (Exit.exit 0) (tx75o0o1 N0 x) (hx75o0o1 N0 x)) n i5
  | 0, _ => rfl
  | n + 1, i5 => by
    have h : ln75o0 N0 (n + 1) (t75o0 N0 x i5) (h75o0 N0 x i5) K = (bif decide (i5 < (↑(List.length x.fst) : Int)) then (bif decide (0 ≤ i5) && decide (i5 < (↑(List.length x.fst) : Int)) then (Option.bind (x.fst[0 + i5.toNat]?) fun v6 => (bif v6 != 0 then K (Exit.ret) (tx75o0o0 N0 x v6) (hx75o0o0 N0 x v6) else ln75o0 N0 n (t75o0 N0 x (IntKind.i64.wrap (i5 + 1))) (h75o0 N0 x (IntKind.i64.wrap (i5 + 1))) K)) else none) else K (Exit.exit 0) (tx75o0o1 N0 x) (hx75o0o1 N0 x)) := by kernel_rfl
    rw [h]
    simp only [decide_self, decide_true, Nat.zero_add, Bool.and_true, Bool.true_and, cond_true, law75o0, leq75o0 N0 x K n]
theorem rest75o0o0 (N0 : Nat) (x : Sh.Ts [(Sh.int IntKind.i64).sl]) (w8 : (Sh.int IntKind.i64).T) : rk75o0 N0 (Exit.ret) (tx75o0o0 N0 x w8) (hx75o0o0 N0 x w8) = some ((w8, ())) := by kernel_rfl
theorem rest75o0o1 (N0 : Nat) (x : Sh.Ts [(Sh.int IntKind.i64).sl]) : rk75o0 N0 (Exit.exit 0) (tx75o0o1 N0 x) (hx75o0o1 N0 x) = some ((0, ())) := by kernel_rfl
noncomputable def law75 (N0 : Nat) (x : ((List Int) × Unit)) : Option ((Int × Unit)) := (law75o0 N0 x (fun w8 => some ((w8, ()))) (some ((0, ()))) N0 0)
theorem eq75 (N0 : Nat) (x : Sh.Ts [(Sh.int IntKind.i64).sl]) : codeLaw Try.prog env75 200 (L75 N0) Try.f75 c75 [.sl (.int .i64)] [.int .i64] x = law75 N0 x := by
  have h : codeLaw Try.prog env75 200 (L75 N0) Try.f75 c75 [.sl (.int .i64)] [.int .i64] x = (ln75o0 N0 N0 (t75o0 N0 x 0) (h75o0 N0 x 0) (rk75o0 N0)) := by kernel_rfl
  rw [h]
  unfold law75
  simp only [decide_self, decide_true, Nat.zero_add, Bool.and_true, Bool.true_and, cond_true, leq75o0, rest75o0o0, rest75o0o1]
noncomputable def fn75 (x : ((List Int) × Unit)) : Option ((Int × Unit)) := law75 (10 ^ 30) x
theorem reads75 : Reads Try.prog 75 [.sl (.int .i64)] [.int .i64] fn75 := (Reads.of_code mixed (fn := Try.f75) (c := c75) Try.func75 (by kernel_rfl) (by kernel_rfl) env75 200 (L75_fit _) (by kernel_rfl)).to (eq75 _)
noncomputable def s75 : Summ Try.prog := reads75.summ
/- chicane/car.engine -/
noncomputable def c56 : Code := (Try.f56.body.getD .skip)
noncomputable def env56 : Env Try.prog := ⟨[s51, s76, s75], none⟩
noncomputable def L56 : Loops Try.prog := []
theorem L56_fit : (L56).fit c56 := Loops.fit_nil
noncomputable def law56 (x : (CarT × Unit)) : Option ((Int × Unit)) := (Option.bind (fn51 ([(x.fst.snd.snd.snd.snd.snd.snd.snd.snd.fst, 0, 17179869184, ()), (x.fst.snd.snd.snd.snd.snd.snd.snd.snd.snd.fst, 67108864, 68719476736, ()), (x.fst.snd.snd.snd.snd.snd.snd.snd.snd.snd.snd.fst, 137438953472, 2199023255552, ()), (x.fst.snd.snd.snd.snd.snd.snd.snd.snd.snd.snd.snd.fst, 274877906944, 8796093022208, ()), (x.fst.snd.snd.snd.snd.snd.snd.snd.snd.snd.snd.snd.snd.fst, 0, 4294967296, ()), (x.fst.snd.snd.snd.snd.snd.snd.snd.snd.snd.snd.snd.snd.snd.fst, 4294967296, 1099511627776, ()), (x.fst.snd.snd.snd.snd.snd.snd.snd.snd.snd.snd.snd.snd.snd.snd.fst, 0, 17592186044416, ())], ())) fun v0 => (Option.bind (fn76 (x.fst.snd.snd.snd.snd.snd.snd.snd.snd.snd.snd.snd.fst, x.fst.snd.snd.snd.snd.snd.snd.snd.snd.snd.snd.fst, ())) fun v1 => (Option.bind (fn75 ([v0.fst, v1.fst], ())) fun v2 => some ((v2.fst, ())))))
theorem eq56 (x : Sh.Ts [CarSh]) : codeLaw Try.prog env56 200 (L56) Try.f56 c56 [CarSh] [.int .i64] x = law56 x := by kernel_rfl
noncomputable def fn56 (x : (CarT × Unit)) : Option ((Int × Unit)) := law56 x
theorem reads56 : Reads Try.prog 56 [CarSh] [.int .i64] fn56 := (Reads.of_code mixed (fn := Try.f56) (c := c56) Try.func56 (by kernel_rfl) (by kernel_rfl) env56 200 (L56_fit) (by kernel_rfl)).to (eq56)
noncomputable def s56 : Summ Try.prog := reads56.summ
/- chicane/car.gears -/
noncomputable def c57 : Code := (Try.f57.body.getD .skip)
noncomputable def env57 : Env Try.prog := ⟨[s51], none⟩
noncomputable def b57o0 : Code := ((kid ((subAt c57 [0, 1, 0, 1, 1, 1]).getD .skip) 0).getD .skip)
noncomputable def kx57o0 : Exit → List Nat | .ret => [2] | .exit 0 => [3] | _ => []
noncomputable def Li57o0 (N0 : Nat) : Loops Try.prog := []
noncomputable def ls57o0 (N0 : Nat) : LSumm Try.prog := loopSumm mixed env57 200 (Li57o0 N0) b57o0 (Loops.fit_nil) [3, 24, 25, 26] kx57o0 (Nat.succ N0)
noncomputable def ln57o0 {β : Type} (N0 : Nat) (n : Nat) (t : List AV) (h : Heap) (K : Exit → List AV → Heap → Option β) : Option β := loopN Try.prog env57 (Sh.nes [CarSh]) 200 (Li57o0 N0) b57o0 [3, 24, 25, 26] kx57o0 n t h K
noncomputable def L57 (N0 : Nat) : Loops Try.prog := [([0, 1, 0, 1, 1, 1], ls57o0 N0)]
theorem L57_fit (N0 : Nat) : (L57 N0).fit c57 := Loops.fit_cons (by kernel_rfl) (Loops.fit_nil)
noncomputable def K57 : Exit → List AV → Heap → Option (Sh.Ts [.int .i64]) := fun e t h => outK (P := Try.prog) Try.f57 [.int .i64] e t h
noncomputable def rk57o0 (N0 : Nat) : Exit → List AV → Heap → Option (Sh.Ts [.int .i64]) := (blkK 0 (seqK Try.prog env57 (Sh.nes [CarSh]) 196 (L57 N0) [1, 1, 1, 1] ((subAt c57 [1, 1, 1, 1]).getD .skip) K57))
noncomputable def t57o0 (N0 : Nat) (x : Sh.Ts [CarSh]) (i14 : Nat) (i15 : Int) (i16 : List (Sh.st [Sh.int IntKind.i64, Sh.int IntKind.i64, Sh.int IntKind.i64]).T) : List AV := [AV.any, AV.any, AV.any, AV.slc 7 0 i14 Cap.unk, AV.any, AV.any, AV.any, AV.any, AV.any, AV.any, AV.any, AV.any, AV.any, AV.any, AV.any, AV.any, AV.any, AV.any, AV.any, AV.any, AV.any, AV.any, AV.any, AV.any, AV.slc 6 0 (List.length x.fst.snd.snd.snd.snd.snd.snd.snd.snd.snd.snd.snd.snd.snd.snd.snd.snd.fst) Cap.low, AV.val (Value.int IntKind.i64 (↑(List.length x.fst.snd.snd.snd.snd.snd.snd.snd.snd.snd.snd.snd.snd.snd.snd.snd.snd.fst) : Int)), AV.val (Value.int IntKind.i64 i15), AV.any, AV.any, AV.any, AV.any, AV.any, AV.any, AV.any, AV.any, AV.any, AV.any, AV.any]
noncomputable def h57o0 (N0 : Nat) (x : Sh.Ts [CarSh]) (i14 : Nat) (i15 : Int) (i16 : List (Sh.st [Sh.int IntKind.i64, Sh.int IntKind.i64, Sh.int IntKind.i64]).T) : Heap := [Ent.live (Blk.mk (Cells.arr (Sh.st [Sh.int IntKind.i64, Sh.int IntKind.i64]) x.fst.snd.snd.snd.snd.fst) false none), Ent.live (Blk.mk (Cells.arr (Sh.int IntKind.i64) x.fst.snd.snd.snd.snd.snd.fst.fst) false none), Ent.live (Blk.mk (Cells.arr (Sh.int IntKind.i64) x.fst.snd.snd.snd.snd.snd.fst.snd.fst) false none), Ent.live (Blk.mk (Cells.arrs (Sh.int IntKind.i64) x.fst.snd.snd.snd.snd.snd.fst.snd.snd.fst) false none), Ent.live (Blk.mk (Cells.arr (Sh.st [Sh.int IntKind.i64, Sh.int IntKind.i64]) x.fst.snd.snd.snd.snd.snd.snd.fst) false none), Ent.live (Blk.mk (Cells.arr (Sh.st [Sh.int IntKind.i64, Sh.int IntKind.i64]) x.fst.snd.snd.snd.snd.snd.snd.snd.fst) false none), Ent.live (Blk.mk (Cells.arr (Sh.int IntKind.i64) x.fst.snd.snd.snd.snd.snd.snd.snd.snd.snd.snd.snd.snd.snd.snd.snd.snd.fst) false none), Ent.live (Blk.mk (Cells.arr (Sh.st [Sh.int IntKind.i64, Sh.int IntKind.i64, Sh.int IntKind.i64]) i16) true (some 3))]
noncomputable def tx57o0o0 (N0 : Nat) (x : Sh.Ts [CarSh]) (w18 : Nat) (w19 : List (Sh.st [Sh.int IntKind.i64, Sh.int IntKind.i64, Sh.int IntKind.i64]).T) : List AV := [AV.any, AV.any, AV.any, AV.slc 7 0 w18 Cap.unk, AV.any, AV.any, AV.any, AV.any, AV.any, AV.any, AV.any, AV.any, AV.any, AV.any, AV.any, AV.any, AV.any, AV.any, AV.any, AV.any, AV.any, AV.any, AV.any, AV.any, AV.any, AV.any, AV.any, AV.any, AV.any, AV.any, AV.any, AV.any, AV.any, AV.any, AV.any, AV.any, AV.any, AV.any]
noncomputable def hx57o0o0 (N0 : Nat) (x : Sh.Ts [CarSh]) (w18 : Nat) (w19 : List (Sh.st [Sh.int IntKind.i64, Sh.int IntKind.i64, Sh.int IntKind.i64]).T) : Heap := [Ent.live (Blk.mk (Cells.arr (Sh.st [Sh.int IntKind.i64, Sh.int IntKind.i64]) x.fst.snd.snd.snd.snd.fst) false none), Ent.live (Blk.mk (Cells.arr (Sh.int IntKind.i64) x.fst.snd.snd.snd.snd.snd.fst.fst) false none), Ent.live (Blk.mk (Cells.arr (Sh.int IntKind.i64) x.fst.snd.snd.snd.snd.snd.fst.snd.fst) false none), Ent.live (Blk.mk (Cells.arrs (Sh.int IntKind.i64) x.fst.snd.snd.snd.snd.snd.fst.snd.snd.fst) false none), Ent.live (Blk.mk (Cells.arr (Sh.st [Sh.int IntKind.i64, Sh.int IntKind.i64]) x.fst.snd.snd.snd.snd.snd.snd.fst) false none), Ent.live (Blk.mk (Cells.arr (Sh.st [Sh.int IntKind.i64, Sh.int IntKind.i64]) x.fst.snd.snd.snd.snd.snd.snd.snd.fst) false none), Ent.live (Blk.mk (Cells.arr (Sh.int IntKind.i64) x.fst.snd.snd.snd.snd.snd.snd.snd.snd.snd.snd.snd.snd.snd.snd.snd.snd.fst) false none), Ent.live (Blk.mk (Cells.arr (Sh.st [Sh.int IntKind.i64, Sh.int IntKind.i64, Sh.int IntKind.i64]) w19) true (some 3))]
noncomputable def law57o0 {β : Type} (N0 : Nat) (x : (CarT × Unit)) (k0 : Nat → List (Int × Int × Int × Unit) → Option β) : Nat → Nat → Int → List (Int × Int × Int × Unit) → Option β
  | 0, _, _, _ => none
  | n + 1, i14, i15, i16 => (bif decide (i15 < (↑(List.length x.fst.snd.snd.snd.snd.snd.snd.snd.snd.snd.snd.snd.snd.snd.snd.snd.snd.fst) : Int)) then (bif decide (0 ≤ i15) && decide (i15 < (↑(List.length x.fst.snd.snd.snd.snd.snd.snd.snd.snd.snd.snd.snd.snd.snd.snd.snd.snd.fst) : Int)) then (Option.bind x.fst.snd.snd.snd.snd.snd.snd.snd.snd.snd.snd.snd.snd.snd.snd.snd.snd.fst[i15.toNat]? fun v17 => (bif decide (i14 = i16.length) && (decide ((i14 + 1) * Try.prog.types[101].bytes ≤ 140737488355328) && decide (i14 + 1 ≤ 9223372036854775807)) then law57o0 N0 x k0 n (i14 + 1) (IntKind.i64.wrap (i15 + 1)) (i16.append [(v17, 1073741824, 137438953472, ())]) else none)) else none) else k0 i14 i16)
theorem leq57o0 {β : Type} (N0 : Nat) (x : Sh.Ts [CarSh]) (K : Exit → List AV → Heap → Option β) : ∀ (n : Nat) (i14 : Nat) (i15 : Int) (i16 : List (Sh.st [Sh.int IntKind.i64, Sh.int IntKind.i64, Sh.int IntKind.i64]).T), ln57o0 N0 n (t57o0 N0 x i14 i15 i16) (h57o0 N0 x i14 i15 i16) K = law57o0 N0 x (fun w18 w19 => K (Exit.exit 0) (tx57o0o0 N0 x w18 w19) (hx57o0o0 N0 x w18 w19)) n i14 i15 i16
  | 0, _, _, _ => rfl
  | n + 1, i14, i15, i16 => by
    have h : ln57o0 N0 (n + 1) (t57o0 N0 x i14 i15 i16) (h57o0 N0 x i14 i15 i16) K = (bif decide (i15 < (↑(List.length x.fst.snd.snd.snd.snd.snd.snd.snd.snd.snd.snd.snd.snd.snd.snd.snd.snd.fst) : Int)) then (bif decide (0 ≤ i15) && decide (i15 < (↑(List.length x.fst.snd.snd.snd.snd.snd.snd.snd.snd.snd.snd.snd.snd.snd.snd.snd.snd.fst) : Int)) then (Option.bind (x.fst.snd.snd.snd.snd.snd.snd.snd.snd.snd.snd.snd.snd.snd.snd.snd.snd.fst[0 + i15.toNat]?) fun v17 => (bif decide (i14 = i16.length) && (decide ((i14 + 1) * Try.prog.types[101].bytes ≤ 140737488355328) && decide (i14 + 1 ≤ 9223372036854775807)) then ln57o0 N0 n (t57o0 N0 x (i14 + 1) (IntKind.i64.wrap (i15 + 1)) (i16.append [(v17, 1073741824, 137438953472, ())])) (h57o0 N0 x (i14 + 1) (IntKind.i64.wrap (i15 + 1)) (i16.append [(v17, 1073741824, 137438953472, ())])) K else none)) else none) else K (Exit.exit 0) (tx57o0o0 N0 x i14 i16) (hx57o0o0 N0 x i14 i16)) := by kernel_rfl
    rw [h]
    simp only [decide_self, decide_true, Nat.zero_add, Bool.and_true, Bool.true_and, cond_true, law57o0, leq57o0 N0 x K n]
theorem rest57o0o0 (N0 : Nat) (x : Sh.Ts [CarSh]) (w20 : Nat) (w21 : List (Sh.st [Sh.int IntKind.i64, Sh.int IntKind.i64, Sh.int IntKind.i64]).T) : rk57o0 N0 (Exit.exit 0) (tx57o0o0 N0 x w20 w21) (hx57o0o0 N0 x w20 w21) = (bif decide (w20 = w21.length) then (Option.bind (fn51 (w21, ())) fun v22 => some ((v22.fst, ()))) else none) := by
  have h : rk57o0 N0 (Exit.exit 0) (tx57o0o0 N0 x w20 w21) (hx57o0o0 N0 x w20 w21) = (bif decide (w20 = w21.length) && true then (Option.bind (fn51 (w21, ())) fun v22 => some ((v22.fst, ()))) else none) := by kernel_rfl
  rw [h]
  simp only [decide_self, decide_true, Nat.zero_add, Bool.and_true, Bool.true_and, cond_true, leq57o0]
noncomputable def law57 (N0 : Nat) (x : (CarT × Unit)) : Option ((Int × Unit)) := (bif decide ((↑(List.length x.fst.snd.snd.snd.snd.snd.snd.snd.snd.snd.snd.snd.snd.snd.snd.snd.snd.fst) : Int) < 1) then some ((42, ())) else (bif decide ((↑(List.length x.fst.snd.snd.snd.snd.snd.snd.snd.snd.snd.snd.snd.snd.snd.snd.snd.snd.fst) : Int) > 8) then some ((42, ())) else (bif decide (0 < (↑(List.length x.fst.snd.snd.snd.snd.snd.snd.snd.snd.snd.snd.snd.snd.snd.snd.snd.snd.fst) : Int)) then (bif decide (0 ≤ 0) && decide (0 < (↑(List.length x.fst.snd.snd.snd.snd.snd.snd.snd.snd.snd.snd.snd.snd.snd.snd.snd.snd.fst) : Int)) then (Option.bind (x.fst.snd.snd.snd.snd.snd.snd.snd.snd.snd.snd.snd.snd.snd.snd.snd.snd.fst[Int.toNat 0]?) fun v0 => (law57o0 N0 x (fun w20 w21 => (bif decide (w20 = w21.length) then (Option.bind (fn51 (w21, ())) fun v22 => some ((v22.fst, ()))) else none)) N0 3 (IntKind.i64.wrap (0 + 1)) ([(x.fst.snd.snd.snd.snd.snd.snd.snd.snd.snd.snd.snd.snd.snd.snd.snd.fst, 1073741824, 137438953472, ()), (x.fst.snd.snd.snd.snd.snd.snd.snd.snd.snd.snd.snd.snd.snd.snd.snd.snd.snd.fst, 2147483648, 68719476736, ()), (v0, 1073741824, 137438953472, ())]))) else none) else (Option.bind (fn51 ([(x.fst.snd.snd.snd.snd.snd.snd.snd.snd.snd.snd.snd.snd.snd.snd.snd.fst, 1073741824, 137438953472, ()), (x.fst.snd.snd.snd.snd.snd.snd.snd.snd.snd.snd.snd.snd.snd.snd.snd.snd.snd.fst, 2147483648, 68719476736, ())], ())) fun v23 => some ((v23.fst, ()))))))
theorem eq57 (N0 : Nat) (x : Sh.Ts [CarSh]) : codeLaw Try.prog env57 200 (L57 N0) Try.f57 c57 [CarSh] [.int .i64] x = law57 N0 x := by
  have h : codeLaw Try.prog env57 200 (L57 N0) Try.f57 c57 [CarSh] [.int .i64] x = (bif decide ((↑(List.length x.fst.snd.snd.snd.snd.snd.snd.snd.snd.snd.snd.snd.snd.snd.snd.snd.snd.fst) : Int) < 1) then some ((42, ())) else (bif decide ((↑(List.length x.fst.snd.snd.snd.snd.snd.snd.snd.snd.snd.snd.snd.snd.snd.snd.snd.snd.fst) : Int) > 8) then some ((42, ())) else (bif decide (0 < (↑(List.length x.fst.snd.snd.snd.snd.snd.snd.snd.snd.snd.snd.snd.snd.snd.snd.snd.snd.fst) : Int)) then (bif decide (0 ≤ 0) && decide (0 < (↑(List.length x.fst.snd.snd.snd.snd.snd.snd.snd.snd.snd.snd.snd.snd.snd.snd.snd.snd.fst) : Int)) then (Option.bind (x.fst.snd.snd.snd.snd.snd.snd.snd.snd.snd.snd.snd.snd.snd.snd.snd.snd.fst[0 + Int.toNat 0]?) fun v0 => (ln57o0 N0 N0 (t57o0 N0 x 3 (IntKind.i64.wrap (0 + 1)) ([(x.fst.snd.snd.snd.snd.snd.snd.snd.snd.snd.snd.snd.snd.snd.snd.snd.fst, 1073741824, 137438953472, ()), (x.fst.snd.snd.snd.snd.snd.snd.snd.snd.snd.snd.snd.snd.snd.snd.snd.snd.snd.fst, 2147483648, 68719476736, ()), (v0, 1073741824, 137438953472, ())])) (h57o0 N0 x 3 (IntKind.i64.wrap (0 + 1)) ([(x.fst.snd.snd.snd.snd.snd.snd.snd.snd.snd.snd.snd.snd.snd.snd.snd.fst, 1073741824, 137438953472, ()), (x.fst.snd.snd.snd.snd.snd.snd.snd.snd.snd.snd.snd.snd.snd.snd.snd.snd.snd.fst, 2147483648, 68719476736, ()), (v0, 1073741824, 137438953472, ())])) (rk57o0 N0))) else none) else (Option.bind (fn51 ([(x.fst.snd.snd.snd.snd.snd.snd.snd.snd.snd.snd.snd.snd.snd.snd.snd.fst, 1073741824, 137438953472, ()), (x.fst.snd.snd.snd.snd.snd.snd.snd.snd.snd.snd.snd.snd.snd.snd.snd.snd.snd.fst, 2147483648, 68719476736, ())], ())) fun v23 => some ((v23.fst, ())))))) := by kernel_rfl
  rw [h]
  unfold law57
  simp only [decide_self, decide_true, Nat.zero_add, Bool.and_true, Bool.true_and, cond_true, leq57o0, rest57o0o0]
noncomputable def fn57 (x : (CarT × Unit)) : Option ((Int × Unit)) := law57 (10 ^ 30) x
theorem reads57 : Reads Try.prog 57 [CarSh] [.int .i64] fn57 := (Reads.of_code mixed (fn := Try.f57) (c := c57) Try.func57 (by kernel_rfl) (by kernel_rfl) env57 200 (L57_fit _) (by kernel_rfl)).to (eq57 _)
noncomputable def s57 : Summ Try.prog := reads57.summ
/- chicane/car.rest -/
noncomputable def c58 : Code := (Try.f58.body.getD .skip)
noncomputable def env58 : Env Try.prog := ⟨[s51], none⟩
noncomputable def L58 : Loops Try.prog := []
theorem L58_fit : (L58).fit c58 := Loops.fit_nil
noncomputable def law58 (x : (CarT × Unit)) : Option ((Int × Unit)) := (bif x.fst.snd.snd.snd.snd.snd.snd.snd.snd.snd.snd.snd.snd.snd.snd.snd.snd.snd.snd.fst == 0 then (bif x.fst.snd.snd.snd.snd.snd.snd.snd.snd.snd.snd.snd.snd.snd.snd.snd.snd.snd.snd.fst == 0 then (Option.bind (fn51 ([(x.fst.snd.snd.snd.snd.snd.snd.snd.snd.snd.snd.snd.snd.snd.snd.snd.snd.snd.snd.snd.fst, 0, 281474976710656, ()), (x.fst.snd.snd.snd.snd.snd.snd.snd.snd.snd.snd.snd.snd.snd.snd.snd.snd.snd.snd.snd.snd.fst, 0, 70368744177664, ()), (x.fst.snd.snd.snd.snd.snd.snd.snd.snd.snd.snd.snd.snd.snd.snd.snd.snd.snd.snd.snd.snd.snd.fst, 0, 70368744177664, ()), (x.fst.snd.snd.snd.snd.snd.snd.snd.snd.snd.snd.snd.snd.snd.snd.snd.snd.snd.snd.snd.snd.snd.snd.fst, 0, 4294967296, ()), (IntKind.i64.wrap x.fst.snd.snd.snd.snd.snd.snd.snd.snd.snd.snd.snd.snd.snd.snd.snd.snd.snd.snd.snd.snd.snd.snd.snd.fst, 0, 536870912, ()), (IntKind.i64.wrap x.fst.snd.snd.snd.snd.snd.snd.snd.snd.snd.snd.snd.snd.snd.snd.snd.snd.snd.snd.snd.snd.snd.snd.snd.snd.fst, 0, 2147483648, ())], ())) fun v0 => some ((v0.fst, ()))) else some ((40, ()))) else (bif x.fst.snd.snd.snd.snd.snd.snd.snd.snd.snd.snd.snd.snd.snd.snd.snd.snd.snd.snd.fst == 1 then (bif x.fst.snd.snd.snd.snd.snd.snd.snd.snd.snd.snd.snd.snd.snd.snd.snd.snd.snd.snd.fst == 1 then (Option.bind (fn51 ([(x.fst.snd.snd.snd.snd.snd.snd.snd.snd.snd.snd.snd.snd.snd.snd.snd.snd.snd.snd.snd.fst, 0, 281474976710656, ()), (x.fst.snd.snd.snd.snd.snd.snd.snd.snd.snd.snd.snd.snd.snd.snd.snd.snd.snd.snd.snd.snd.fst, 0, 70368744177664, ()), (x.fst.snd.snd.snd.snd.snd.snd.snd.snd.snd.snd.snd.snd.snd.snd.snd.snd.snd.snd.snd.snd.snd.fst, 0, 70368744177664, ()), (x.fst.snd.snd.snd.snd.snd.snd.snd.snd.snd.snd.snd.snd.snd.snd.snd.snd.snd.snd.snd.snd.snd.snd.fst, 0, 4294967296, ()), (IntKind.i64.wrap x.fst.snd.snd.snd.snd.snd.snd.snd.snd.snd.snd.snd.snd.snd.snd.snd.snd.snd.snd.snd.snd.snd.snd.snd.fst, 0, 536870912, ()), (IntKind.i64.wrap x.fst.snd.snd.snd.snd.snd.snd.snd.snd.snd.snd.snd.snd.snd.snd.snd.snd.snd.snd.snd.snd.snd.snd.snd.snd.fst, 0, 2147483648, ())], ())) fun v1 => some ((v1.fst, ()))) else some ((40, ()))) else (bif x.fst.snd.snd.snd.snd.snd.snd.snd.snd.snd.snd.snd.snd.snd.snd.snd.snd.snd.snd.fst == 2 then (Option.bind (fn51 ([(x.fst.snd.snd.snd.snd.snd.snd.snd.snd.snd.snd.snd.snd.snd.snd.snd.snd.snd.snd.snd.fst, 0, 281474976710656, ()), (x.fst.snd.snd.snd.snd.snd.snd.snd.snd.snd.snd.snd.snd.snd.snd.snd.snd.snd.snd.snd.snd.fst, 0, 70368744177664, ()), (x.fst.snd.snd.snd.snd.snd.snd.snd.snd.snd.snd.snd.snd.snd.snd.snd.snd.snd.snd.snd.snd.snd.fst, 0, 70368744177664, ()), (x.fst.snd.snd.snd.snd.snd.snd.snd.snd.snd.snd.snd.snd.snd.snd.snd.snd.snd.snd.snd.snd.snd.snd.fst, 0, 4294967296, ()), (IntKind.i64.wrap x.fst.snd.snd.snd.snd.snd.snd.snd.snd.snd.snd.snd.snd.snd.snd.snd.snd.snd.snd.snd.snd.snd.snd.snd.fst, 0, 536870912, ()), (IntKind.i64.wrap x.fst.snd.snd.snd.snd.snd.snd.snd.snd.snd.snd.snd.snd.snd.snd.snd.snd.snd.snd.snd.snd.snd.snd.snd.snd.fst, 0, 2147483648, ())], ())) fun v2 => some ((v2.fst, ()))) else some ((40, ())))))
theorem eq58 (x : Sh.Ts [CarSh]) : codeLaw Try.prog env58 200 (L58) Try.f58 c58 [CarSh] [.int .i64] x = law58 x := by kernel_rfl
noncomputable def fn58 (x : (CarT × Unit)) : Option ((Int × Unit)) := law58 x
theorem reads58 : Reads Try.prog 58 [CarSh] [.int .i64] fn58 := (Reads.of_code mixed (fn := Try.f58) (c := c58) Try.func58 (by kernel_rfl) (by kernel_rfl) env58 200 (L58_fit) (by kernel_rfl)).to (eq58)
noncomputable def s58 : Summ Try.prog := reads58.summ
/- chicane/car.ease -/
noncomputable def c59 : Code := (Try.f59.body.getD .skip)
noncomputable def env59 : Env Try.prog := ⟨[s51, s76, s75], none⟩
noncomputable def L59 : Loops Try.prog := []
theorem L59_fit : (L59).fit c59 := Loops.fit_nil
noncomputable def law59 (x : (CarT × Unit)) : Option ((Int × Unit)) := (Option.bind (fn51 ([(x.fst.snd.snd.snd.snd.snd.snd.snd.snd.snd.snd.snd.snd.snd.snd.snd.snd.snd.snd.snd.snd.snd.snd.snd.snd.snd.snd.snd.snd.fst, 0, 17179869184, ()), (x.fst.snd.snd.snd.snd.snd.snd.snd.snd.snd.snd.snd.snd.snd.snd.snd.snd.snd.snd.snd.snd.snd.snd.snd.snd.snd.snd.snd.snd.snd.fst, 0, 17179869184, ()), (x.fst.snd.snd.snd.snd.snd.snd.snd.snd.snd.snd.snd.snd.snd.snd.snd.snd.snd.snd.snd.snd.snd.snd.snd.snd.snd.snd.snd.snd.snd.snd.fst, 0, 8796093022208, ()), (x.fst.snd.snd.snd.snd.snd.snd.snd.snd.snd.snd.snd.snd.snd.snd.snd.snd.snd.snd.snd.snd.snd.snd.snd.snd.snd.snd.snd.snd.snd.snd.snd.fst, 0, 8796093022208, ())], ())) fun v0 => (Option.bind (fn76 x.fst.snd.snd.snd.snd.snd.snd.snd.snd.snd.snd.snd.snd.snd.snd.snd.snd.snd.snd.snd.snd.snd.snd.snd.snd.snd.snd.snd.snd.snd.snd) fun v1 => (Option.bind (fn75 ([v0.fst, v1.fst], ())) fun v2 => some ((v2.fst, ())))))
theorem eq59 (x : Sh.Ts [CarSh]) : codeLaw Try.prog env59 200 (L59) Try.f59 c59 [CarSh] [.int .i64] x = law59 x := by kernel_rfl
noncomputable def fn59 (x : (CarT × Unit)) : Option ((Int × Unit)) := law59 x
theorem reads59 : Reads Try.prog 59 [CarSh] [.int .i64] fn59 := (Reads.of_code mixed (fn := Try.f59) (c := c59) Try.func59 (by kernel_rfl) (by kernel_rfl) env59 200 (L59_fit) (by kernel_rfl)).to (eq59)
noncomputable def s59 : Summ Try.prog := reads59.summ
/- chicane/car.all -/
noncomputable def c36 : Code := (Try.f36.body.getD .skip)
noncomputable def env36 : Env Try.prog := ⟨[s49, s50, s51, s52, s53, s54, s55, s56, s57, s58, s59], none⟩
noncomputable def L36 : Loops Try.prog := []
theorem L36_fit : (L36).fit c36 := Loops.fit_nil
noncomputable def law36 (x : (CarT × Unit)) : Option (List Int) := (Option.bind (fn49 x) fun v0 => (Option.bind (fn50 (x.fst.snd.snd.fst.fst, ())) fun v1 => (Option.bind (fn50 (x.fst.snd.snd.fst.snd.fst, ())) fun v2 => (Option.bind (fn50 (x.fst.snd.snd.fst.snd.snd.fst, ())) fun v3 => (Option.bind (fn50 x.fst.snd.snd.fst.snd.snd.snd) fun v4 => (Option.bind (fn51 ([(x.fst.snd.snd.snd.fst.fst, 0, 562949953421312, ()), (x.fst.snd.snd.snd.fst.snd.fst, 0, 562949953421312, ())], ())) fun v5 => (Option.bind (fn52x53 (x.fst.snd.snd.snd.snd.fst, -140737488355328, 140737488355328, ()) ()) fun v6 => (Option.bind (fn54 (x.fst.snd.snd.snd.snd.snd.fst, ())) fun v7 => (Option.bind (fn52x55 (x.fst.snd.snd.snd.snd.snd.snd.fst, -17592186044416, 17592186044416, ()) ()) fun v8 => (Option.bind (fn52x55 (x.fst.snd.snd.snd.snd.snd.snd.snd.fst, 0, 140737488355328, ()) ()) fun v9 => (Option.bind (fn56 x) fun v10 => (Option.bind (fn57 x) fun v11 => (Option.bind (fn58 x) fun v12 => (Option.bind (fn59 x) fun v13 => some ([v0.fst, v1.fst, v2.fst, v3.fst, v4.fst, v5.fst, v6.fst, v7.fst, v8.fst, v9.fst, v10.fst, v11.fst, v12.fst, v13.fst])))))))))))))))
theorem eq36 (x : Sh.Ts [CarSh]) : codeLawF Try.prog env36 200 (L36) Try.f36 c36 [CarSh] (.int .i64) x = law36 x := by
  have h : codeLawF Try.prog env36 200 (L36) Try.f36 c36 [CarSh] (.int .i64) x = (bif decide (List.length x.fst.snd.snd.snd.snd.fst = List.length x.fst.snd.snd.snd.snd.fst) && (decide (List.length x.fst.snd.snd.snd.snd.snd.fst.fst = List.length x.fst.snd.snd.snd.snd.snd.fst.fst) && (decide (List.length x.fst.snd.snd.snd.snd.snd.fst.snd.fst = List.length x.fst.snd.snd.snd.snd.snd.fst.snd.fst) && (decide (List.length x.fst.snd.snd.snd.snd.snd.fst.snd.snd.fst = List.length x.fst.snd.snd.snd.snd.snd.fst.snd.snd.fst) && true)) && (decide (List.length x.fst.snd.snd.snd.snd.snd.snd.fst = List.length x.fst.snd.snd.snd.snd.snd.snd.fst) && (decide (List.length x.fst.snd.snd.snd.snd.snd.snd.snd.fst = List.length x.fst.snd.snd.snd.snd.snd.snd.snd.fst) && (decide (List.length x.fst.snd.snd.snd.snd.snd.snd.snd.snd.snd.snd.snd.snd.snd.snd.snd.snd.fst = List.length x.fst.snd.snd.snd.snd.snd.snd.snd.snd.snd.snd.snd.snd.snd.snd.snd.snd.fst) && true)))) && true then (Option.bind (fn49 x) fun v0 => (Option.bind (fn50 (x.fst.snd.snd.fst.fst, ())) fun v1 => (Option.bind (fn50 (x.fst.snd.snd.fst.snd.fst, ())) fun v2 => (Option.bind (fn50 (x.fst.snd.snd.fst.snd.snd.fst, ())) fun v3 => (Option.bind (fn50 x.fst.snd.snd.fst.snd.snd.snd) fun v4 => (Option.bind (fn51 ([(x.fst.snd.snd.snd.fst.fst, 0, 562949953421312, ()), (x.fst.snd.snd.snd.fst.snd.fst, 0, 562949953421312, ())], ())) fun v5 => (bif decide (List.length x.fst.snd.snd.snd.snd.fst = List.length x.fst.snd.snd.snd.snd.fst) && true && true then (Option.bind (fn52x53 (x.fst.snd.snd.snd.snd.fst, -140737488355328, 140737488355328, ()) ()) fun v6 => (bif decide (List.length x.fst.snd.snd.snd.snd.snd.fst.fst = List.length x.fst.snd.snd.snd.snd.snd.fst.fst) && (decide (List.length x.fst.snd.snd.snd.snd.snd.fst.snd.fst = List.length x.fst.snd.snd.snd.snd.snd.fst.snd.fst) && (decide (List.length x.fst.snd.snd.snd.snd.snd.fst.snd.snd.fst = List.length x.fst.snd.snd.snd.snd.snd.fst.snd.snd.fst) && true)) && true then (Option.bind (fn54 (x.fst.snd.snd.snd.snd.snd.fst, ())) fun v7 => (bif decide (List.length x.fst.snd.snd.snd.snd.snd.snd.fst = List.length x.fst.snd.snd.snd.snd.snd.snd.fst) && true && true then (Option.bind (fn52x55 (x.fst.snd.snd.snd.snd.snd.snd.fst, -17592186044416, 17592186044416, ()) ()) fun v8 => (bif decide (List.length x.fst.snd.snd.snd.snd.snd.snd.snd.fst = List.length x.fst.snd.snd.snd.snd.snd.snd.snd.fst) && true && true then (Option.bind (fn52x55 (x.fst.snd.snd.snd.snd.snd.snd.snd.fst, 0, 140737488355328, ()) ()) fun v9 => (bif decide (List.length x.fst.snd.snd.snd.snd.fst = List.length x.fst.snd.snd.snd.snd.fst) && (decide (List.length x.fst.snd.snd.snd.snd.snd.fst.fst = List.length x.fst.snd.snd.snd.snd.snd.fst.fst) && (decide (List.length x.fst.snd.snd.snd.snd.snd.fst.snd.fst = List.length x.fst.snd.snd.snd.snd.snd.fst.snd.fst) && (decide (List.length x.fst.snd.snd.snd.snd.snd.fst.snd.snd.fst = List.length x.fst.snd.snd.snd.snd.snd.fst.snd.snd.fst) && true)) && (decide (List.length x.fst.snd.snd.snd.snd.snd.snd.fst = List.length x.fst.snd.snd.snd.snd.snd.snd.fst) && (decide (List.length x.fst.snd.snd.snd.snd.snd.snd.snd.fst = List.length x.fst.snd.snd.snd.snd.snd.snd.snd.fst) && (decide (List.length x.fst.snd.snd.snd.snd.snd.snd.snd.snd.snd.snd.snd.snd.snd.snd.snd.snd.fst = List.length x.fst.snd.snd.snd.snd.snd.snd.snd.snd.snd.snd.snd.snd.snd.snd.snd.snd.fst) && true)))) && true then (Option.bind (fn56 x) fun v10 => (bif decide (List.length x.fst.snd.snd.snd.snd.fst = List.length x.fst.snd.snd.snd.snd.fst) && (decide (List.length x.fst.snd.snd.snd.snd.snd.fst.fst = List.length x.fst.snd.snd.snd.snd.snd.fst.fst) && (decide (List.length x.fst.snd.snd.snd.snd.snd.fst.snd.fst = List.length x.fst.snd.snd.snd.snd.snd.fst.snd.fst) && (decide (List.length x.fst.snd.snd.snd.snd.snd.fst.snd.snd.fst = List.length x.fst.snd.snd.snd.snd.snd.fst.snd.snd.fst) && true)) && (decide (List.length x.fst.snd.snd.snd.snd.snd.snd.fst = List.length x.fst.snd.snd.snd.snd.snd.snd.fst) && (decide (List.length x.fst.snd.snd.snd.snd.snd.snd.snd.fst = List.length x.fst.snd.snd.snd.snd.snd.snd.snd.fst) && (decide (List.length x.fst.snd.snd.snd.snd.snd.snd.snd.snd.snd.snd.snd.snd.snd.snd.snd.snd.fst = List.length x.fst.snd.snd.snd.snd.snd.snd.snd.snd.snd.snd.snd.snd.snd.snd.snd.snd.fst) && true)))) && true then (Option.bind (fn57 x) fun v11 => (bif decide (List.length x.fst.snd.snd.snd.snd.fst = List.length x.fst.snd.snd.snd.snd.fst) && (decide (List.length x.fst.snd.snd.snd.snd.snd.fst.fst = List.length x.fst.snd.snd.snd.snd.snd.fst.fst) && (decide (List.length x.fst.snd.snd.snd.snd.snd.fst.snd.fst = List.length x.fst.snd.snd.snd.snd.snd.fst.snd.fst) && (decide (List.length x.fst.snd.snd.snd.snd.snd.fst.snd.snd.fst = List.length x.fst.snd.snd.snd.snd.snd.fst.snd.snd.fst) && true)) && (decide (List.length x.fst.snd.snd.snd.snd.snd.snd.fst = List.length x.fst.snd.snd.snd.snd.snd.snd.fst) && (decide (List.length x.fst.snd.snd.snd.snd.snd.snd.snd.fst = List.length x.fst.snd.snd.snd.snd.snd.snd.snd.fst) && (decide (List.length x.fst.snd.snd.snd.snd.snd.snd.snd.snd.snd.snd.snd.snd.snd.snd.snd.snd.fst = List.length x.fst.snd.snd.snd.snd.snd.snd.snd.snd.snd.snd.snd.snd.snd.snd.snd.snd.fst) && true)))) && true then (Option.bind (fn58 x) fun v12 => (bif decide (List.length x.fst.snd.snd.snd.snd.fst = List.length x.fst.snd.snd.snd.snd.fst) && (decide (List.length x.fst.snd.snd.snd.snd.snd.fst.fst = List.length x.fst.snd.snd.snd.snd.snd.fst.fst) && (decide (List.length x.fst.snd.snd.snd.snd.snd.fst.snd.fst = List.length x.fst.snd.snd.snd.snd.snd.fst.snd.fst) && (decide (List.length x.fst.snd.snd.snd.snd.snd.fst.snd.snd.fst = List.length x.fst.snd.snd.snd.snd.snd.fst.snd.snd.fst) && true)) && (decide (List.length x.fst.snd.snd.snd.snd.snd.snd.fst = List.length x.fst.snd.snd.snd.snd.snd.snd.fst) && (decide (List.length x.fst.snd.snd.snd.snd.snd.snd.snd.fst = List.length x.fst.snd.snd.snd.snd.snd.snd.snd.fst) && (decide (List.length x.fst.snd.snd.snd.snd.snd.snd.snd.snd.snd.snd.snd.snd.snd.snd.snd.snd.fst = List.length x.fst.snd.snd.snd.snd.snd.snd.snd.snd.snd.snd.snd.snd.snd.snd.snd.snd.fst) && true)))) && true then (Option.bind (fn59 x) fun v13 => some ([v0.fst, v1.fst, v2.fst, v3.fst, v4.fst, v5.fst, v6.fst, v7.fst, v8.fst, v9.fst, v10.fst, v11.fst, v12.fst, v13.fst])) else none)) else none)) else none)) else none)) else none)) else none)) else none)) else none))))))) else none) := by kernel_rfl
  rw [h]
  unfold law36
  simp only [decide_self, decide_true, Nat.zero_add, Bool.and_true, Bool.true_and, cond_true]
noncomputable def fn36 (x : (CarT × Unit)) : Option (List (Int)) := law36 x
theorem reads36 : ReadsF Try.prog 36 [CarSh] (.int .i64) fn36 := (ReadsF.of_code mixed (fn := Try.f36) (c := c36) Try.func36 (by kernel_rfl) (by kernel_rfl) env36 200 (L36_fit)).to (eq36)
noncomputable def s36 : Summ Try.prog := reads36.summ
/- chicane/car.Right$1 -/
noncomputable def c38 : Code := (Try.f38.body.getD .skip)
noncomputable def env38 : Env Try.prog := ⟨[], none⟩
noncomputable def L38 : Loops Try.prog := []
theorem L38_fit : (L38).fit c38 := Loops.fit_nil
noncomputable def law38 (x : (Int × Unit)) : Option ((Bool × Unit)) := some ((x.fst != 0, ()))
theorem eq38 (x : Sh.Ts [Sh.int IntKind.i64]) : codeLaw Try.prog env38 200 (L38) Try.f38 c38 [.int .i64] [.bool] x = law38 x := by kernel_rfl
noncomputable def fn38 (x : (Int × Unit)) : Option ((Bool × Unit)) := law38 x
theorem reads38 : Reads Try.prog 38 [.int .i64] [.bool] fn38 := (Reads.of_code mixed (fn := Try.f38) (c := c38) Try.func38 (by kernel_rfl) (by kernel_rfl) env38 200 (L38_fit) (by kernel_rfl)).to (eq38)
noncomputable def s38 : Summ Try.prog := reads38.summ
/- slices.IndexFunc[[]chicane/api.Errno,chicane/api.Errno] -/
noncomputable def c37x38 : Code := (Try.f37.body.getD .skip)
noncomputable def env37x38 : Env Try.prog := ⟨[s38], none⟩
noncomputable def b37x38_0 : Code := ((kid ((subAt c37x38 [0, 1, 0, 1]).getD .skip) 0).getD .skip)
noncomputable def kx37x38_0 : Exit → List Nat | .ret => [4] | _ => []
noncomputable def Li37x38_0 (N0 : Nat) : Loops Try.prog := []
noncomputable def ls37x38_0 (N0 : Nat) : LSumm Try.prog := loopSumm mixed env37x38 200 (Li37x38_0 N0) b37x38_0 (Loops.fit_nil) [0, 1, 7, 8] kx37x38_0 (N0)
noncomputable def ln37x38_0 {β : Type} (N0 : Nat) (n : Nat) (t : List AV) (h : Heap) (K : Exit → List AV → Heap → Option β) : Option β := loopN Try.prog env37x38 (Sh.nes [.sl (.int .i64)] + Sh.nes [] + List.length (α := Sh) []) 200 (Li37x38_0 N0) b37x38_0 [0, 1, 7, 8] kx37x38_0 n t h K
noncomputable def L37x38 (N0 : Nat) : Loops Try.prog := [([0, 1, 0, 1], ls37x38_0 N0)]
theorem L37x38_fit (N0 : Nat) : (L37x38 N0).fit c37x38 := Loops.fit_cons (by kernel_rfl) (Loops.fit_nil)
noncomputable def K37x38 : Exit → List AV → Heap → Option (Sh.Ts [.int .i64]) := fun e t h => outK (P := Try.prog) Try.f37 [.int .i64] e t h
noncomputable def rk37x38_0 (N0 : Nat) : Exit → List AV → Heap → Option (Sh.Ts [.int .i64]) := (blkK 0 (seqK Try.prog env37x38 (Sh.nes [.sl (.int .i64)] + Sh.nes [] + List.length (α := Sh) []) 198 (L37x38 N0) [1, 1] ((subAt c37x38 [1, 1]).getD .skip) K37x38))
noncomputable def t37x38_0 (N0 : Nat) (x : Sh.Ts [(Sh.int IntKind.i64).sl]) (i5 : Int) : List AV := [AV.slc 0 0 (List.length x.fst) Cap.low, AV.fn (Fn.func 38) [] [], AV.any, AV.any, AV.any, AV.any, AV.any, AV.val (Value.int IntKind.i64 (↑(List.length x.fst) : Int)), AV.val (Value.int IntKind.i64 i5), AV.any, AV.any, AV.any, AV.any, AV.any, AV.any, AV.any, AV.any, AV.any, AV.any]
noncomputable def h37x38_0 (N0 : Nat) (x : Sh.Ts [(Sh.int IntKind.i64).sl]) (i5 : Int) : Heap := [Ent.live (Blk.mk (Cells.arr (Sh.int IntKind.i64) x.fst) false none)]
noncomputable def tx37x38_0_0 (N0 : Nat) (x : Sh.Ts [(Sh.int IntKind.i64).sl]) (w7 : Int) : List AV := [AV.any, AV.any, AV.any, AV.any, AV.val (Value.int IntKind.i64 w7), AV.any, AV.any, AV.any, AV.any, AV.any, AV.any, AV.any, AV.any, AV.any, AV.any, AV.any, AV.any, AV.any, AV.any]
noncomputable def hx37x38_0_0 (N0 : Nat) (x : Sh.Ts [(Sh.int IntKind.i64).sl]) (w7 : Int) : Heap := [Ent.live (Blk.mk (Cells.arr (Sh.int IntKind.i64) x.fst) false none)]
noncomputable def tx37x38_0_1 (N0 : Nat) (x : Sh.Ts [(Sh.int IntKind.i64).sl]) : List AV := [AV.any, AV.any, AV.any, AV.any, AV.any, AV.any, AV.any, AV.any, AV.any, AV.any, AV.any, AV.any, AV.any, AV.any, AV.any, AV.any, AV.any, AV.any, AV.any]
noncomputable def hx37x38_0_1 (N0 : Nat) (x : Sh.Ts [(Sh.int IntKind.i64).sl]) : Heap := [Ent.live (Blk.mk (Cells.arr (Sh.int IntKind.i64) x.fst) false none)]
noncomputable def law37x38_0 {β : Type} (N0 : Nat) (x : ((List Int) × Unit)) (k0 : Int → Option β) (k1 : Option β) : Nat → Int → Option β
  | 0, _ => none
  | n + 1, i5 => (bif decide (i5 < (↑(List.length x.fst) : Int)) then (bif decide (0 ≤ i5) && decide (i5 < (↑(List.length x.fst) : Int)) then (Option.bind x.fst[i5.toNat]? fun v6 => (bif v6 != 0 then k0 i5 else law37x38_0 N0 x k0 k1 n (IntKind.i64.wrap (i5 + 1)))) else none) else k1)
theorem leq37x38_0 {β : Type} (N0 : Nat) (x : Sh.Ts [(Sh.int IntKind.i64).sl]) (K : Exit → List AV → Heap → Option β) : ∀ (n : Nat) (i5 : Int), ln37x38_0 N0 n (t37x38_0 N0 x i5) (h37x38_0 N0 x i5) K = law37x38_0 N0 x (fun w7 => K (Exit.ret) (tx37x38_0_0 N0 x w7) (hx37x38_0_0 N0 x w7)) (K (Exit.exit 0) (tx37x38_0_1 N0 x) (hx37x38_0_1 N0 x)) n i5
  | 0, _ => rfl
  | n + 1, i5 => by
    have h : ln37x38_0 N0 (n + 1) (t37x38_0 N0 x i5) (h37x38_0 N0 x i5) K = (bif decide (i5 < (↑(List.length x.fst) : Int)) then (bif decide (0 ≤ i5) && decide (i5 < (↑(List.length x.fst) : Int)) then (Option.bind (x.fst[0 + i5.toNat]?) fun v6 => (bif v6 != 0 then K (Exit.ret) (tx37x38_0_0 N0 x i5) (hx37x38_0_0 N0 x i5) else ln37x38_0 N0 n (t37x38_0 N0 x (IntKind.i64.wrap (i5 + 1))) (h37x38_0 N0 x (IntKind.i64.wrap (i5 + 1))) K)) else none) else K (Exit.exit 0) (tx37x38_0_1 N0 x) (hx37x38_0_1 N0 x)) := by kernel_rfl
    rw [h]
    simp only [decide_self, decide_true, Nat.zero_add, Bool.and_true, Bool.true_and, cond_true, law37x38_0, leq37x38_0 N0 x K n]
theorem rest37x38_0_0 (N0 : Nat) (x : Sh.Ts [(Sh.int IntKind.i64).sl]) (w8 : Int) : rk37x38_0 N0 (Exit.ret) (tx37x38_0_0 N0 x w8) (hx37x38_0_0 N0 x w8) = some ((w8, ())) := by kernel_rfl
theorem rest37x38_0_1 (N0 : Nat) (x : Sh.Ts [(Sh.int IntKind.i64).sl]) : rk37x38_0 N0 (Exit.exit 0) (tx37x38_0_1 N0 x) (hx37x38_0_1 N0 x) = some ((-1, ())) := by kernel_rfl
noncomputable def law37x38 (N0 : Nat) (x : ((List Int) × Unit)) (xs : (Unit)) : Option ((Int × Unit)) := (law37x38_0 N0 x (fun w8 => some ((w8, ()))) (some ((-1, ()))) N0 0)
theorem eq37x38 (N0 : Nat) (x : Sh.Ts [(Sh.int IntKind.i64).sl]) (xs : Sh.Ts []) : codeLawC Try.prog env37x38 200 (L37x38 N0) Try.f37 c37x38 [.sl (.int .i64)] 38 [] [.int .i64] x xs = law37x38 N0 x xs := by
  have h : codeLawC Try.prog env37x38 200 (L37x38 N0) Try.f37 c37x38 [.sl (.int .i64)] 38 [] [.int .i64] x xs = (ln37x38_0 N0 N0 (t37x38_0 N0 x 0) (h37x38_0 N0 x 0) (rk37x38_0 N0)) := by kernel_rfl
  rw [h]
  unfold law37x38
  simp only [decide_self, decide_true, Nat.zero_add, Bool.and_true, Bool.true_and, cond_true, leq37x38_0, rest37x38_0_0, rest37x38_0_1]
noncomputable def fn37x38 (x : ((List Int) × Unit)) (xs : (Unit)) : Option ((Int × Unit)) := law37x38 (10 ^ 30) x xs
theorem reads37x38 : ReadsC Try.prog 37 [.sl (.int .i64)] 38 [] [.int .i64] fn37x38 := (ReadsC.of_code mixed (fn := Try.f37) (c := c37x38) Try.func37 (by kernel_rfl) (by kernel_rfl) env37x38 200 (L37x38_fit _) (by kernel_rfl)).to (eq37x38 _)
noncomputable def s37x38 : Summ Try.prog := reads37x38.summ (by kernel_rfl)
noncomputable def s37 : Summ Try.prog := s37x38
/- chicane/car.Right -/
noncomputable def c22 : Code := (Try.f22.body.getD .skip)
noncomputable def env22 : Env Try.prog := ⟨[s36, s37, s38], none⟩
noncomputable def L22 : Loops Try.prog := []
theorem L22_fit : (L22).fit c22 := Loops.fit_nil
noncomputable def law22 (x : (CarT × Unit)) : Option ((Int × Int × Unit)) := (Option.bind (fn36 x) fun v0 => (Option.bind (fn37x38 (v0, ()) ()) fun v1 => (bif decide (v1.fst < 0) then some ((0, 0, ())) else (bif decide (0 ≤ v1.fst) && decide (v1.fst < (↑v0.length : Int)) then (Option.bind (v0[Int.toNat v1.fst]?) fun v2 => some ((v2, v1.fst, ()))) else none))))
theorem eq22 (x : Sh.Ts [CarSh]) : codeLaw Try.prog env22 200 (L22) Try.f22 c22 [CarSh] [.int .i64, .int .i64] x = law22 x := by
  have h : codeLaw Try.prog env22 200 (L22) Try.f22 c22 [CarSh] [.int .i64, .int .i64] x = (bif decide (List.length x.fst.snd.snd.snd.snd.fst = List.length x.fst.snd.snd.snd.snd.fst) && (decide (List.length x.fst.snd.snd.snd.snd.snd.fst.fst = List.length x.fst.snd.snd.snd.snd.snd.fst.fst) && (decide (List.length x.fst.snd.snd.snd.snd.snd.fst.snd.fst = List.length x.fst.snd.snd.snd.snd.snd.fst.snd.fst) && (decide (List.length x.fst.snd.snd.snd.snd.snd.fst.snd.snd.fst = List.length x.fst.snd.snd.snd.snd.snd.fst.snd.snd.fst) && true)) && (decide (List.length x.fst.snd.snd.snd.snd.snd.snd.fst = List.length x.fst.snd.snd.snd.snd.snd.snd.fst) && (decide (List.length x.fst.snd.snd.snd.snd.snd.snd.snd.fst = List.length x.fst.snd.snd.snd.snd.snd.snd.snd.fst) && (decide (List.length x.fst.snd.snd.snd.snd.snd.snd.snd.snd.snd.snd.snd.snd.snd.snd.snd.snd.fst = List.length x.fst.snd.snd.snd.snd.snd.snd.snd.snd.snd.snd.snd.snd.snd.snd.snd.snd.fst) && true)))) && true then (Option.bind (fn36 x) fun v0 => (bif decide (v0.length = v0.length) && true && true then (Option.bind (fn37x38 (v0, ()) ()) fun v1 => (bif decide (v1.fst < 0) then some ((0, 0, ())) else (bif decide (0 ≤ v1.fst) && decide (v1.fst < (↑v0.length : Int)) then (Option.bind (v0[0 + Int.toNat v1.fst]?) fun v2 => some ((v2, v1.fst, ()))) else none))) else none)) else none) := by kernel_rfl
  rw [h]
  unfold law22
  simp only [decide_self, decide_true, Nat.zero_add, Bool.and_true, Bool.true_and, cond_true]
noncomputable def fn22 (x : (CarT × Unit)) : Option ((Int × Int × Unit)) := law22 x
theorem reads22 : Reads Try.prog 22 [CarSh] [.int .i64, .int .i64] fn22 := (Reads.of_code mixed (fn := Try.f22) (c := c22) Try.func22 (by kernel_rfl) (by kernel_rfl) env22 200 (L22_fit) (by kernel_rfl)).to (eq22)
noncomputable def s22 : Summ Try.prog := reads22.summ
/- chicane/chicanelaw17.Few -/
noncomputable def c9 : Code := (Try.f9.body.getD .skip)
noncomputable def env9 : Env Try.prog := ⟨[s21], none⟩
noncomputable def L9 : Loops Try.prog := []
theorem L9_fit : (L9).fit c9 := Loops.fit_nil
noncomputable def law9 (x : (CarT × Unit)) : Option ((Bool × Unit)) := (bif decide ((↑(List.length x.fst.snd.snd.snd.snd.fst) : Int) ≤ 40) then (bif decide ((↑(List.length x.fst.snd.snd.snd.snd.snd.snd.fst) : Int) ≤ 40) then (bif decide ((↑(List.length x.fst.snd.snd.snd.snd.snd.snd.snd.fst) : Int) ≤ 40) then (bif decide ((↑(List.length x.fst.snd.snd.snd.snd.snd.snd.snd.snd.snd.snd.snd.snd.snd.snd.snd.snd.fst) : Int) ≤ 20) then (Option.bind (fn21 (x.fst.snd.snd.snd.snd.snd.fst, ())) fun v0 => some ((v0.fst, ()))) else some ((false, ()))) else some ((false, ()))) else some ((false, ()))) else some ((false, ())))
theorem eq9 (x : Sh.Ts [CarSh]) : codeLaw Try.prog env9 200 (L9) Try.f9 c9 [CarSh] [.bool] x = law9 x := by
  have h : codeLaw Try.prog env9 200 (L9) Try.f9 c9 [CarSh] [.bool] x = (bif decide ((↑(List.length x.fst.snd.snd.snd.snd.fst) : Int) ≤ 40) then (bif decide ((↑(List.length x.fst.snd.snd.snd.snd.snd.snd.fst) : Int) ≤ 40) then (bif decide ((↑(List.length x.fst.snd.snd.snd.snd.snd.snd.snd.fst) : Int) ≤ 40) then (bif decide ((↑(List.length x.fst.snd.snd.snd.snd.snd.snd.snd.snd.snd.snd.snd.snd.snd.snd.snd.snd.fst) : Int) ≤ 20) then (bif decide (List.length x.fst.snd.snd.snd.snd.snd.fst.fst = List.length x.fst.snd.snd.snd.snd.snd.fst.fst) && (decide (List.length x.fst.snd.snd.snd.snd.snd.fst.snd.fst = List.length x.fst.snd.snd.snd.snd.snd.fst.snd.fst) && (decide (List.length x.fst.snd.snd.snd.snd.snd.fst.snd.snd.fst = List.length x.fst.snd.snd.snd.snd.snd.fst.snd.snd.fst) && true)) && true then (Option.bind (fn21 (x.fst.snd.snd.snd.snd.snd.fst, ())) fun v0 => some ((v0.fst, ()))) else none) else some ((false, ()))) else some ((false, ()))) else some ((false, ()))) else some ((false, ()))) := by kernel_rfl
  rw [h]
  unfold law9
  simp only [decide_self, decide_true, Nat.zero_add, Bool.and_true, Bool.true_and, cond_true]
noncomputable def fn9 (x : (CarT × Unit)) : Option ((Bool × Unit)) := law9 x
theorem reads9 : Reads Try.prog 9 [CarSh] [.bool] fn9 := (Reads.of_code mixed (fn := Try.f9) (c := c9) Try.func9 (by kernel_rfl) (by kernel_rfl) env9 200 (L9_fit) (by kernel_rfl)).to (eq9)
noncomputable def s9 : Summ Try.prog := reads9.summ
/- chicane/pane.around -/
noncomputable def c43 : Code := (Try.f43.body.getD .skip)
noncomputable def env43 : Env Try.prog := ⟨[s67], none⟩
noncomputable def b43o0 : Code := ((kid ((subAt c43 [0, 1, 0, 1, 1]).getD .skip) 0).getD .skip)
noncomputable def kx43o0 : Exit → List Nat | .ret => [4] | .exit 0 => [1, 5] | _ => []
noncomputable def Li43o0 (N0 : Nat) : Loops Try.prog := []
noncomputable def ls43o0 (N0 : Nat) : LSumm Try.prog := loopSumm mixed env43 200 (Li43o0 N0) b43o0 (Loops.fit_nil) [1, 5, 14, 15, 16] kx43o0 (N0)
noncomputable def ln43o0 {β : Type} (N0 : Nat) (n : Nat) (t : List AV) (h : Heap) (K : Exit → List AV → Heap → Option β) : Option β := loopN Try.prog env43 (Sh.nes [PaneSh, .int .i64]) 200 (Li43o0 N0) b43o0 [1, 5, 14, 15, 16] kx43o0 n t h K
noncomputable def L43 (N0 : Nat) : Loops Try.prog := [([0, 1, 0, 1, 1], ls43o0 N0)]
theorem L43_fit (N0 : Nat) : (L43 N0).fit c43 := Loops.fit_cons (by kernel_rfl) (Loops.fit_nil)
noncomputable def K43 : Exit → List AV → Heap → Option Int := fun e t h => outBx (P := Try.prog) Try.f43 (Sh.nes [PaneSh, .int .i64]) 68 .i64 e t h
noncomputable def rk43o0 (N0 : Nat) : Exit → List AV → Heap → Option Int := (blkK 0 (seqK Try.prog env43 (Sh.nes [PaneSh, .int .i64]) 197 (L43 N0) [1, 1, 1] ((subAt c43 [1, 1, 1]).getD .skip) K43))
noncomputable def t43o0 (N0 : Nat) (x : Sh.Ts [PaneSh, Sh.int IntKind.i64]) (i11 : Int) (i12 : List (Sh.st [Sh.int IntKind.i64, Sh.int IntKind.i64]).T) : List AV := [AV.any, AV.val (Value.int IntKind.i64 x.snd.fst), AV.any, AV.any, AV.any, AV.slc 3 0 (↑(List.length x.fst.snd.fst) : Int).toNat Cap.unk, AV.any, AV.any, AV.any, AV.any, AV.any, AV.any, AV.any, AV.any, AV.slc 1 0 (List.length x.fst.snd.fst) Cap.low, AV.val (Value.int IntKind.i64 (↑(List.length x.fst.snd.fst) : Int)), AV.val (Value.int IntKind.i64 i11), AV.any, AV.any, AV.any, AV.any, AV.any, AV.any, AV.any, AV.any, AV.any, AV.any, AV.any, AV.any, AV.any, AV.any]
noncomputable def h43o0 (N0 : Nat) (x : Sh.Ts [PaneSh, Sh.int IntKind.i64]) (i11 : Int) (i12 : List (Sh.st [Sh.int IntKind.i64, Sh.int IntKind.i64]).T) : Heap := [Ent.live (Blk.mk (Cells.arr (Sh.int IntKind.i64) x.fst.fst) false none), Ent.live (Blk.mk (Cells.arr (Sh.int IntKind.i64) x.fst.snd.fst) false none), Ent.live (Blk.mk (Cells.arrs (Sh.int IntKind.i64) x.fst.snd.snd.fst) false none), Ent.live (Blk.mk (Cells.arr (Sh.st [Sh.int IntKind.i64, Sh.int IntKind.i64]) i12) true (some 2))]
noncomputable def tx43o0o0 (N0 : Nat) (x : Sh.Ts [PaneSh, Sh.int IntKind.i64]) (w15 : List (Sh.st [Sh.int IntKind.i64, Sh.int IntKind.i64]).T) : List AV := [AV.any, AV.val (Value.int IntKind.i64 x.snd.fst), AV.any, AV.any, AV.any, AV.slc 3 0 (↑(List.length x.fst.snd.fst) : Int).toNat Cap.unk, AV.any, AV.any, AV.any, AV.any, AV.any, AV.any, AV.any, AV.any, AV.any, AV.any, AV.any, AV.any, AV.any, AV.any, AV.any, AV.any, AV.any, AV.any, AV.any, AV.any, AV.any, AV.any, AV.any, AV.any, AV.any]
noncomputable def hx43o0o0 (N0 : Nat) (x : Sh.Ts [PaneSh, Sh.int IntKind.i64]) (w15 : List (Sh.st [Sh.int IntKind.i64, Sh.int IntKind.i64]).T) : Heap := [Ent.live (Blk.mk (Cells.arr (Sh.int IntKind.i64) x.fst.fst) false none), Ent.live (Blk.mk (Cells.arr (Sh.int IntKind.i64) x.fst.snd.fst) false none), Ent.live (Blk.mk (Cells.arrs (Sh.int IntKind.i64) x.fst.snd.snd.fst) false none), Ent.live (Blk.mk (Cells.arr (Sh.st [Sh.int IntKind.i64, Sh.int IntKind.i64]) w15) true (some 2))]
noncomputable def law43o0 {β : Type} (N0 : Nat) (x : (PaneT × Int × Unit)) (k0 : List (Int × Int × Unit) → Option β) : Nat → Int → List (Int × Int × Unit) → Option β
  | 0, _, _ => none
  | n + 1, i11, i12 => (bif decide (i11 < (↑(List.length x.fst.snd.fst) : Int)) then (bif decide (0 ≤ i11) && decide (i11 < (↑(List.length x.fst.snd.fst) : Int)) then (Option.bind x.fst.snd.fst[i11.toNat]? fun v13 => (bif decide (0 ≤ i11) && decide (i11 < (↑(↑(List.length x.fst.snd.fst) : Int).toNat : Int)) then (Option.bind i12[i11.toNat]? fun v14 => law43o0 N0 x k0 n (IntKind.i64.wrap (i11 + 1)) (i12.set i11.toNat (v13, v14.snd.fst, ()))) else none)) else none) else k0 i12)
theorem leq43o0 {β : Type} (N0 : Nat) (x : Sh.Ts [PaneSh, Sh.int IntKind.i64]) (K : Exit → List AV → Heap → Option β) : ∀ (n : Nat) (i11 : Int) (i12 : List (Sh.st [Sh.int IntKind.i64, Sh.int IntKind.i64]).T), ln43o0 N0 n (t43o0 N0 x i11 i12) (h43o0 N0 x i11 i12) K = law43o0 N0 x (fun w15 => K (Exit.exit 0) (tx43o0o0 N0 x w15) (hx43o0o0 N0 x w15)) n i11 i12
  | 0, _, _ => rfl
  | n + 1, i11, i12 => by
    have h : ln43o0 N0 (n + 1) (t43o0 N0 x i11 i12) (h43o0 N0 x i11 i12) K = (bif decide (i11 < (↑(List.length x.fst.snd.fst) : Int)) then (bif decide (0 ≤ i11) && decide (i11 < (↑(List.length x.fst.snd.fst) : Int)) then (Option.bind (x.fst.snd.fst[0 + i11.toNat]?) fun v13 => (bif decide (0 ≤ i11) && decide (i11 < (↑(↑(List.length x.fst.snd.fst) : Int).toNat : Int)) then (Option.bind i12[i11.toNat]? fun v14 => ln43o0 N0 n (t43o0 N0 x (IntKind.i64.wrap (i11 + 1)) (i12.set i11.toNat (v13, v14.snd.fst, ()))) (h43o0 N0 x (IntKind.i64.wrap (i11 + 1)) (i12.set i11.toNat (v13, v14.snd.fst, ()))) K) else none)) else none) else K (Exit.exit 0) (tx43o0o0 N0 x i12) (hx43o0o0 N0 x i12)) := by kernel_rfl
    rw [h]
    simp only [decide_self, decide_true, Nat.zero_add, Bool.and_true, Bool.true_and, cond_true, law43o0, leq43o0 N0 x K n]
theorem rest43o0o0 (N0 : Nat) (x : Sh.Ts [PaneSh, Sh.int IntKind.i64]) (w16 : List (Sh.st [Sh.int IntKind.i64, Sh.int IntKind.i64]).T) : rk43o0 N0 (Exit.exit 0) (tx43o0o0 N0 x w16) (hx43o0o0 N0 x w16) = (bif decide ((↑(List.length x.fst.snd.fst) : Int).toNat = w16.length) then (Option.bind (fn67 (w16, x.snd)) fun v17 => some v17.fst) else none) := by
  have h : rk43o0 N0 (Exit.exit 0) (tx43o0o0 N0 x w16) (hx43o0o0 N0 x w16) = (bif decide ((↑(List.length x.fst.snd.fst) : Int).toNat = w16.length) && true then (Option.bind (fn67 (w16, x.snd)) fun v17 => some v17.fst) else none) := by kernel_rfl
  rw [h]
  simp only [decide_self, decide_true, Nat.zero_add, Bool.and_true, Bool.true_and, cond_true, leq43o0]
noncomputable def law43 (N0 : Nat) (x : (PaneT × Int × Unit)) : Option Int := (bif decide (0 ≤ (↑(List.length x.fst.snd.fst) : Int)) && (decide ((↑(List.length x.fst.snd.fst) : Int).toNat * Try.prog.types[75].bytes ≤ 140737488355328) && decide ((↑(List.length x.fst.snd.fst) : Int) ≤ 4611686018427387904)) then (law43o0 N0 x (fun w16 => (bif decide ((↑(List.length x.fst.snd.fst) : Int).toNat = w16.length) then (Option.bind (fn67 (w16, x.snd)) fun v17 => some v17.fst) else none)) N0 0 (List.replicate (↑(List.length x.fst.snd.fst) : Int).toNat (0, 0, ()))) else none)
theorem eq43 (N0 : Nat) (x : Sh.Ts [PaneSh, Sh.int IntKind.i64]) : codeLawK Try.prog env43 200 (L43 N0) Try.f43 c43 [PaneSh, .int .i64] 68 .i64 x = law43 N0 x := by
  have h : codeLawK Try.prog env43 200 (L43 N0) Try.f43 c43 [PaneSh, .int .i64] 68 .i64 x = (bif decide (0 ≤ (↑(List.length x.fst.snd.fst) : Int)) && (decide ((↑(List.length x.fst.snd.fst) : Int).toNat * Try.prog.types[75].bytes ≤ 140737488355328) && decide ((↑(List.length x.fst.snd.fst) : Int) ≤ 4611686018427387904)) then (ln43o0 N0 N0 (t43o0 N0 x 0 (List.replicate (↑(List.length x.fst.snd.fst) : Int).toNat (0, 0, ()))) (h43o0 N0 x 0 (List.replicate (↑(List.length x.fst.snd.fst) : Int).toNat (0, 0, ()))) (rk43o0 N0)) else none) := by kernel_rfl
  rw [h]
  unfold law43
  simp only [decide_self, decide_true, Nat.zero_add, Bool.and_true, Bool.true_and, cond_true, leq43o0, rest43o0o0]
noncomputable def fn43 (x : (PaneT × Int × Unit)) : Option Int := law43 (10 ^ 30) x
theorem reads43 : ReadsK Try.prog 43 [PaneSh, .int .i64] 68 .i64 fn43 := (ReadsK.of_code mixed (fn := Try.f43) (c := c43) Try.func43 (by kernel_rfl) (by kernel_rfl) env43 200 (L43_fit _)).to (eq43 _)
noncomputable def s43 : Summ Try.prog := reads43.summ
/- chicane/pane.Eval -/
noncomputable def c31 : Code := (Try.f31.body.getD .skip)
noncomputable def env31 : Env Try.prog := ⟨[s42, s43, s45, s44], none⟩
noncomputable def rc31o0 : Code := ((subAt c31 [0, 1, 0, 1, 1, 1]).getD .skip)
noncomputable def ri31o0 : Code := (Try.f68.body.getD .skip)
noncomputable def rs31o0 : LSumm Try.prog := rangeSumm mixed env31 (fun _ => True.intro) 200 [] (rgG rc31o0) (rgP rc31o0) (rgA rc31o0) (rgB rc31o0) Loops.fit_nil [] 200 (fun _ => []) 68 Try.f68 ri31o0 Try.func68 (by kernel_rfl) (by kernel_rfl) (by kernel_rfl) (fun _ => Loops.fit_nil)
noncomputable def L31 : Loops Try.prog := [([0, 1, 0, 1, 1, 1], rs31o0)]
theorem L31_fit : (L31).fit c31 := Loops.fit_cons (by kernel_rfl) (Loops.fit_nil)
noncomputable def law31 (m : MT) (x : (PaneT × Int × Int × Unit)) : Option (MT × (Int × Unit)) := (Option.bind (fn42 (x.fst, ())) fun v0 => (bif v0.fst != 0 then some (((m.fst, ()), 0, ())) else (Option.bind (fn43 (x.fst, x.snd.snd)) fun v1 => (bif decide (0 ≤ v1) && decide (v1 < (↑(List.length x.fst.snd.fst) : Int)) then (Option.bind x.fst.snd.fst[v1.toNat]? fun v2 => (Option.bind (fn45 (x.fst, v1, ())) fun v3 => (Option.bind (fn44 m (v3, x.snd.fst, ())) fun v4 => (bif decide (0 ≤ IntKind.i64.wrap (v1 + 1)) && decide (IntKind.i64.wrap (v1 + 1) < (↑(List.length x.fst.snd.fst) : Int)) then (Option.bind (x.fst.snd.fst[(IntKind.i64.wrap (v1 + 1)).toNat]?) fun v5 => (Option.bind (fn45 (x.fst, IntKind.i64.wrap (v1 + 1), ())) fun v6 => (Option.bind (fn44 v4.fst (v6, x.snd.fst, ())) fun v7 => (Option.bind (fn44 v7.fst ([(v2, v4.snd)] ++ [(v5, v7.snd)], x.snd.snd)) fun v8 => some (((v8.fst.fst, ()), v8.snd.fst, ())))))) else none)))) else none))))
theorem eq31 (m : MSh.T) (x : Sh.Ts [PaneSh, Sh.int IntKind.i64, Sh.int IntKind.i64]) : codeLawM Try.prog env31 200 (L31) Try.f31 c31 (MSh) [PaneSh, .int .i64, .int .i64] [.int .i64] m x = law31 m x := by
  have h : codeLawM Try.prog env31 200 (L31) Try.f31 c31 (MSh) [PaneSh, .int .i64, .int .i64] [.int .i64] m x = (bif decide (List.length x.fst.fst = List.length x.fst.fst) && (decide (List.length x.fst.snd.fst = List.length x.fst.snd.fst) && (decide (List.length x.fst.snd.snd.fst = List.length x.fst.snd.snd.fst) && true)) && true then (Option.bind (fn42 (x.fst, ())) fun v0 => (bif v0.fst != 0 then some (((m.fst, ()), 0, ())) else (bif decide (List.length x.fst.fst = List.length x.fst.fst) && (decide (List.length x.fst.snd.fst = List.length x.fst.snd.fst) && (decide (List.length x.fst.snd.snd.fst = List.length x.fst.snd.snd.fst) && true)) && true then (Option.bind (fn43 (x.fst, x.snd.snd)) fun v1 => (bif decide (0 ≤ v1) && decide (v1 < (↑(List.length x.fst.snd.fst) : Int)) then (Option.bind (x.fst.snd.fst[0 + v1.toNat]?) fun v2 => (bif decide (List.length x.fst.fst = List.length x.fst.fst) && (decide (List.length x.fst.snd.fst = List.length x.fst.snd.fst) && (decide (List.length x.fst.snd.snd.fst = List.length x.fst.snd.snd.fst) && true)) && true then (Option.bind (fn45 (x.fst, v1, ())) fun v3 => (bif decide (v3.length = v3.length) && true then (Option.bind (fn44 m (v3, x.snd.fst, ())) fun v4 => (bif decide (0 ≤ IntKind.i64.wrap (v1 + 1)) && decide (IntKind.i64.wrap (v1 + 1) < (↑(List.length x.fst.snd.fst) : Int)) then (Option.bind (x.fst.snd.fst[0 + (IntKind.i64.wrap (v1 + 1)).toNat]?) fun v5 => (bif decide (List.length x.fst.fst = List.length x.fst.fst) && (decide (List.length x.fst.snd.fst = List.length x.fst.snd.fst) && (decide (List.length x.fst.snd.snd.fst = List.length x.fst.snd.snd.fst) && true)) && true then (Option.bind (fn45 (x.fst, IntKind.i64.wrap (v1 + 1), ())) fun v6 => (bif decide (v6.length = v6.length) && true then (Option.bind (fn44 v4.fst (v6, x.snd.fst, ())) fun v7 => (Option.bind (fn44 v7.fst ([(v2, v4.snd)] ++ [(v5, v7.snd)], x.snd.snd)) fun v8 => some (((v8.fst.fst, ()), v8.snd.fst, ())))) else none)) else none)) else none)) else none)) else none)) else none)) else none))) else none) := by kernel_rfl
  rw [h]
  unfold law31
  simp only [decide_self, decide_true, Nat.zero_add, Bool.and_true, Bool.true_and, cond_true]
noncomputable def fn31 (m : MT) (x : (PaneT × Int × Int × Unit)) : Option (MT × (Int × Unit)) := law31 m x
theorem acts31 : Acts Try.prog 31 (MSh) [PaneSh, .int .i64, .int .i64] [.int .i64] fn31 := (Acts.of_code mixed (fn := Try.f31) (c := c31) Try.func31 (by kernel_rfl) (by kernel_rfl) env31 200 (L31_fit) (by kernel_rfl) (by kernel_rfl)).to (eq31)
noncomputable def s31 : Summ Try.prog := acts31.summ (by kernel_rfl)
/- chicane/tyre.Grip -/
noncomputable def c14 : Code := (Try.f14.body.getD .skip)
noncomputable def env14 : Env Try.prog := ⟨[s16, s31], none⟩
noncomputable def L14 : Loops Try.prog := []
theorem L14_fit : (L14).fit c14 := Loops.fit_nil
noncomputable def law14 (m : MT) (x : (CarT × Int × Int × Unit)) : Option (MT × (Int × Unit)) := (Option.bind (fn16 m x.snd.snd) fun v0 => (Option.bind (fn31 v0.fst (x.fst.snd.snd.snd.snd.snd.fst, v0.snd.fst, x.snd.fst, ())) fun v1 => some (((v1.fst.fst, ()), v1.snd.fst, ()))))
theorem eq14 (m : MSh.T) (x : Sh.Ts [CarSh, Sh.int IntKind.i64, Sh.int IntKind.i64]) : codeLawM Try.prog env14 200 (L14) Try.f14 c14 (MSh) [CarSh, .int .i64, .int .i64] [.int .i64] m x = law14 m x := by
  have h : codeLawM Try.prog env14 200 (L14) Try.f14 c14 (MSh) [CarSh, .int .i64, .int .i64] [.int .i64] m x = (Option.bind (fn16 m x.snd.snd) fun v0 => (bif decide (List.length x.fst.snd.snd.snd.snd.snd.fst.fst = List.length x.fst.snd.snd.snd.snd.snd.fst.fst) && (decide (List.length x.fst.snd.snd.snd.snd.snd.fst.snd.fst = List.length x.fst.snd.snd.snd.snd.snd.fst.snd.fst) && (decide (List.length x.fst.snd.snd.snd.snd.snd.fst.snd.snd.fst = List.length x.fst.snd.snd.snd.snd.snd.fst.snd.snd.fst) && true)) && true then (Option.bind (fn31 v0.fst (x.fst.snd.snd.snd.snd.snd.fst, v0.snd.fst, x.snd.fst, ())) fun v1 => some (((v1.fst.fst, ()), v1.snd.fst, ()))) else none)) := by kernel_rfl
  rw [h]
  unfold law14
  simp only [decide_self, decide_true, Nat.zero_add, Bool.and_true, Bool.true_and, cond_true]
noncomputable def fn14 (m : MT) (x : (CarT × Int × Int × Unit)) : Option (MT × (Int × Unit)) := law14 m x
theorem acts14 : Acts Try.prog 14 (MSh) [CarSh, .int .i64, .int .i64] [.int .i64] fn14 := (Acts.of_code mixed (fn := Try.f14) (c := c14) Try.func14 (by kernel_rfl) (by kernel_rfl) env14 200 (L14_fit) (by kernel_rfl) (by kernel_rfl)).to (eq14)
noncomputable def s14 : Summ Try.prog := acts14.summ (by kernel_rfl)
/- chicane/tyre.Force$1 -/
noncomputable def c23 : Code := (Try.f23.body.getD .skip)
noncomputable def env23 : Env Try.prog := ⟨[s19, s13], none⟩
noncomputable def s23 : Summ Try.prog := inlSumm onlyM mixed 23 Try.f23 c23 Try.func23 (by kernel_rfl) (by kernel_rfl) env23 200 [] (Loops.fit_nil)
/- chicane/tyre.Force -/
noncomputable def c11 : Code := (Try.f11.body.getD .skip)
noncomputable def env11 : Env Try.prog := ⟨[s13, s12, s14, s23, s24], none⟩
noncomputable def L11 : Loops Try.prog := []
theorem L11_fit : (L11).fit c11 := Loops.fit_nil
noncomputable def law11 (m : MT) (x : (CarT × Int × Int × Int × Int × Unit)) : Option (MT × (Int × Int × Unit)) := (Option.bind (fn13 m (x.fst.snd.snd.snd.snd.snd.snd.snd.snd.fst, x.snd.snd.snd.snd)) fun v0 => (Option.bind (fn12 v0.fst (x.snd.snd.snd.fst, v0.snd)) fun v1 => (bif v1.snd.fst == 0 then some (((v1.fst.fst, ()), 0, 0, ())) else (bif decide (x.snd.fst ≤ 0) then some (((v1.fst.fst, ()), 0, 0, ())) else (Option.bind (fn14 v1.fst (x.fst, x.snd.fst, v1.snd)) fun v2 => (Option.bind (fn13 v2.fst (v2.snd.fst, x.snd.snd.fst, ())) fun v3 => (Option.bind (fn13 v3.fst (x.snd.fst, v3.snd)) fun v4 => (Option.bind (fn19 v4.fst (x.snd.snd.snd.fst, v1.snd)) fun v5 => (Option.bind (fn13 v5.fst (v4.snd.fst, v5.snd)) fun v6 => (Option.bind (fn19 v6.fst (v0.snd.fst, v1.snd)) fun v7 => (Option.bind (fn13 v7.fst (v4.snd.fst, v7.snd)) fun v8 => (Option.bind (fn24 v8.fst v8.snd) fun v9 => some (((v9.fst.fst, ()), v6.snd.fst, v9.snd.fst, ()))))))))))))))
theorem eq11 (m : MSh.T) (x : Sh.Ts [CarSh, Sh.int IntKind.i64, Sh.int IntKind.i64, Sh.int IntKind.i64, Sh.int IntKind.i64]) : codeLawM Try.prog env11 200 (L11) Try.f11 c11 (MSh) [CarSh, .int .i64, .int .i64, .int .i64, .int .i64] [.int .i64, .int .i64] m x = law11 m x := by
  have h : codeLawM Try.prog env11 200 (L11) Try.f11 c11 (MSh) [CarSh, .int .i64, .int .i64, .int .i64, .int .i64] [.int .i64, .int .i64] m x = (Option.bind (fn13 m (x.fst.snd.snd.snd.snd.snd.snd.snd.snd.fst, x.snd.snd.snd.snd)) fun v0 => (Option.bind (fn12 v0.fst (x.snd.snd.snd.fst, v0.snd)) fun v1 => (bif v1.snd.fst == 0 then some (((v1.fst.fst, ()), 0, 0, ())) else (bif decide (x.snd.fst ≤ 0) then some (((v1.fst.fst, ()), 0, 0, ())) else (bif decide (List.length x.fst.snd.snd.snd.snd.fst = List.length x.fst.snd.snd.snd.snd.fst) && (decide (List.length x.fst.snd.snd.snd.snd.snd.fst.fst = List.length x.fst.snd.snd.snd.snd.snd.fst.fst) && (decide (List.length x.fst.snd.snd.snd.snd.snd.fst.snd.fst = List.length x.fst.snd.snd.snd.snd.snd.fst.snd.fst) && (decide (List.length x.fst.snd.snd.snd.snd.snd.fst.snd.snd.fst = List.length x.fst.snd.snd.snd.snd.snd.fst.snd.snd.fst) && true)) && (decide (List.length x.fst.snd.snd.snd.snd.snd.snd.fst = List.length x.fst.snd.snd.snd.snd.snd.snd.fst) && (decide (List.length x.fst.snd.snd.snd.snd.snd.snd.snd.fst = List.length x.fst.snd.snd.snd.snd.snd.snd.snd.fst) && (decide (List.length x.fst.snd.snd.snd.snd.snd.snd.snd.snd.snd.snd.snd.snd.snd.snd.snd.snd.fst = List.length x.fst.snd.snd.snd.snd.snd.snd.snd.snd.snd.snd.snd.snd.snd.snd.snd.snd.fst) && true)))) && true then (Option.bind (fn14 v1.fst (x.fst, x.snd.fst, v1.snd)) fun v2 => (Option.bind (fn13 v2.fst (v2.snd.fst, x.snd.snd.fst, ())) fun v3 => (Option.bind (fn13 v3.fst (x.snd.fst, v3.snd)) fun v4 => (Option.bind (fn19 v4.fst (x.snd.snd.snd.fst, v1.snd)) fun v5 => (Option.bind (fn13 v5.fst (v4.snd.fst, v5.snd)) fun v6 => (Option.bind (fn19 v6.fst (v0.snd.fst, v1.snd)) fun v7 => (Option.bind (fn13 v7.fst (v4.snd.fst, v7.snd)) fun v8 => (Option.bind (fn24 v8.fst v8.snd) fun v9 => some (((v9.fst.fst, ()), v6.snd.fst, v9.snd.fst, ())))))))))) else none))))) := by kernel_rfl
  rw [h]
  unfold law11
  simp only [decide_self, decide_true, Nat.zero_add, Bool.and_true, Bool.true_and, cond_true]
noncomputable def fn11 (m : MT) (x : (CarT × Int × Int × Int × Int × Unit)) : Option (MT × (Int × Int × Unit)) := law11 m x
theorem acts11 : Acts Try.prog 11 (MSh) [CarSh, .int .i64, .int .i64, .int .i64, .int .i64] [.int .i64, .int .i64] fn11 := (Acts.of_code mixed (fn := Try.f11) (c := c11) Try.func11 (by kernel_rfl) (by kernel_rfl) env11 200 (L11_fit) (by kernel_rfl) (by kernel_rfl)).to (eq11)
noncomputable def s11 : Summ Try.prog := acts11.summ (by kernel_rfl)
/- chicane/chicanelaw26.in -/
noncomputable def c6 : Code := (Try.f6.body.getD .skip)
noncomputable def env6 : Env Try.prog := ⟨[], none⟩
noncomputable def L6 : Loops Try.prog := []
theorem L6_fit : (L6).fit c6 := Loops.fit_nil
noncomputable def law6 (x : (Int × Int × Unit)) : Option ((Bool × Unit)) := (bif decide (x.fst ≤ x.snd.fst) then some ((decide (x.fst ≥ IntKind.i64.wrap (0 - x.snd.fst)), ())) else some ((false, ())))
theorem eq6 (x : Sh.Ts [Sh.int IntKind.i64, Sh.int IntKind.i64]) : codeLaw Try.prog env6 200 (L6) Try.f6 c6 [.int .i64, .int .i64] [.bool] x = law6 x := by kernel_rfl
noncomputable def fn6 (x : (Int × Int × Unit)) : Option ((Bool × Unit)) := law6 x
theorem reads6 : Reads Try.prog 6 [.int .i64, .int .i64] [.bool] fn6 := (Reads.of_code mixed (fn := Try.f6) (c := c6) Try.func6 (by kernel_rfl) (by kernel_rfl) env6 200 (L6_fit) (by kernel_rfl)).to (eq6)
noncomputable def s6 : Summ Try.prog := reads6.summ
/- chicane/chicanelaw26.right -/
noncomputable def c10 : Code := (Try.f10.body.getD .skip)
noncomputable def env10 : Env Try.prog := ⟨[s22, s6], none⟩
noncomputable def L10 : Loops Try.prog := []
theorem L10_fit : (L10).fit c10 := Loops.fit_nil
noncomputable def law10 (x : (CarT × (Int × Int × Int × Int × Unit) × Unit)) : Option ((Bool × Unit)) := (Option.bind (fn22 (x.fst, ())) fun v0 => (bif v0.fst == 0 then (bif decide (x.snd.fst.fst ≥ 0) then (bif decide (x.snd.fst.fst ≤ 1125899906842624) then (bif decide (x.snd.fst.snd.fst ≥ 0) then (bif decide (x.snd.fst.snd.fst ≤ 8589934592) then (Option.bind (fn6 (x.snd.fst.snd.snd.fst, 17179869184, ())) fun v1 => (bif v1.fst then (Option.bind (fn6 (x.snd.fst.snd.snd.snd.fst, 17179869184, ())) fun v2 => some ((v2.fst, ()))) else some ((false, ())))) else some ((false, ()))) else some ((false, ()))) else some ((false, ()))) else some ((false, ()))) else some ((false, ()))))
theorem eq10 (x : Sh.Ts [CarSh, Sh.st [Sh.int IntKind.i64, Sh.int IntKind.i64, Sh.int IntKind.i64, Sh.int IntKind.i64]]) : codeLaw Try.prog env10 200 (L10) Try.f10 c10 [CarSh, .st [.int .i64, .int .i64, .int .i64, .int .i64]] [.bool] x = law10 x := by
  have h : codeLaw Try.prog env10 200 (L10) Try.f10 c10 [CarSh, .st [.int .i64, .int .i64, .int .i64, .int .i64]] [.bool] x = (bif decide (List.length x.fst.snd.snd.snd.snd.fst = List.length x.fst.snd.snd.snd.snd.fst) && (decide (List.length x.fst.snd.snd.snd.snd.snd.fst.fst = List.length x.fst.snd.snd.snd.snd.snd.fst.fst) && (decide (List.length x.fst.snd.snd.snd.snd.snd.fst.snd.fst = List.length x.fst.snd.snd.snd.snd.snd.fst.snd.fst) && (decide (List.length x.fst.snd.snd.snd.snd.snd.fst.snd.snd.fst = List.length x.fst.snd.snd.snd.snd.snd.fst.snd.snd.fst) && true)) && (decide (List.length x.fst.snd.snd.snd.snd.snd.snd.fst = List.length x.fst.snd.snd.snd.snd.snd.snd.fst) && (decide (List.length x.fst.snd.snd.snd.snd.snd.snd.snd.fst = List.length x.fst.snd.snd.snd.snd.snd.snd.snd.fst) && (decide (List.length x.fst.snd.snd.snd.snd.snd.snd.snd.snd.snd.snd.snd.snd.snd.snd.snd.snd.fst = List.length x.fst.snd.snd.snd.snd.snd.snd.snd.snd.snd.snd.snd.snd.snd.snd.snd.snd.fst) && true)))) && true then (Option.bind (fn22 (x.fst, ())) fun v0 => (bif v0.fst == 0 then (bif decide (x.snd.fst.fst ≥ 0) then (bif decide (x.snd.fst.fst ≤ 1125899906842624) then (bif decide (x.snd.fst.snd.fst ≥ 0) then (bif decide (x.snd.fst.snd.fst ≤ 8589934592) then (Option.bind (fn6 (x.snd.fst.snd.snd.fst, 17179869184, ())) fun v1 => (bif v1.fst then (Option.bind (fn6 (x.snd.fst.snd.snd.snd.fst, 17179869184, ())) fun v2 => some ((v2.fst, ()))) else some ((false, ())))) else some ((false, ()))) else some ((false, ()))) else some ((false, ()))) else some ((false, ()))) else some ((false, ())))) else none) := by kernel_rfl
  rw [h]
  unfold law10
  simp only [decide_self, decide_true, Nat.zero_add, Bool.and_true, Bool.true_and, cond_true]
noncomputable def fn10 (x : (CarT × (Int × Int × Int × Int × Unit) × Unit)) : Option ((Bool × Unit)) := law10 x
theorem reads10 : Reads Try.prog 10 [CarSh, .st [.int .i64, .int .i64, .int .i64, .int .i64]] [.bool] fn10 := (Reads.of_code mixed (fn := Try.f10) (c := c10) Try.func10 (by kernel_rfl) (by kernel_rfl) env10 200 (L10_fit) (by kernel_rfl)).to (eq10)
noncomputable def s10 : Summ Try.prog := reads10.summ
/- chicane/chicanelaw17.whole -/
noncomputable def c32 : Code := (Try.f32.body.getD .skip)
noncomputable def env32 : Env Try.prog := ⟨[], none⟩
noncomputable def L32 : Loops Try.prog := []
theorem L32_fit : (L32).fit c32 := Loops.fit_nil
noncomputable def law32 (x : (Int × Unit)) : Option ((Int × Unit)) := some ((IntKind.i64.wrap (x.fst * 4294967296), ()))
theorem eq32 (x : Sh.Ts [Sh.int IntKind.i64]) : codeLaw Try.prog env32 200 (L32) Try.f32 c32 [.int .i64] [.int .i64] x = law32 x := by kernel_rfl
noncomputable def fn32 (x : (Int × Unit)) : Option ((Int × Unit)) := law32 x
theorem reads32 : Reads Try.prog 32 [.int .i64] [.int .i64] fn32 := (Reads.of_code mixed (fn := Try.f32) (c := c32) Try.func32 (by kernel_rfl) (by kernel_rfl) env32 200 (L32_fit) (by kernel_rfl)).to (eq32)
noncomputable def s32 : Summ Try.prog := reads32.summ
/- chicane/chicanelaw17.Sample -/
noncomputable def c15 : Code := (Try.f15.body.getD .skip)
noncomputable def env15 : Env Try.prog := ⟨[s32], none⟩
noncomputable def s15 : Summ Try.prog := inlSumm allRw mixed 15 Try.f15 c15 Try.func15 (by kernel_rfl) (by kernel_rfl) env15 200 [] (Loops.fit_nil)
/- chicane/fx.Clamp -/
noncomputable def c18 : Code := (Try.f18.body.getD .skip)
noncomputable def env18 : Env Try.prog := ⟨[], none⟩
noncomputable def L18 : Loops Try.prog := []
theorem L18_fit : (L18).fit c18 := Loops.fit_nil
noncomputable def law18 (x : (Int × Int × Int × Unit)) : Option ((Int × Unit)) := (bif decide (x.fst < x.snd.fst) then some ((x.snd.fst, ())) else (bif decide (x.fst > x.snd.snd.fst) then some ((x.snd.snd.fst, ())) else some ((x.fst, ()))))
theorem eq18 (x : Sh.Ts [Sh.int IntKind.i64, Sh.int IntKind.i64, Sh.int IntKind.i64]) : codeLaw Try.prog env18 200 (L18) Try.f18 c18 [.int .i64, .int .i64, .int .i64] [.int .i64] x = law18 x := by kernel_rfl
noncomputable def fn18 (x : (Int × Int × Int × Unit)) : Option ((Int × Unit)) := law18 x
theorem reads18 : Reads Try.prog 18 [.int .i64, .int .i64, .int .i64] [.int .i64] fn18 := (Reads.of_code mixed (fn := Try.f18) (c := c18) Try.func18 (by kernel_rfl) (by kernel_rfl) env18 200 (L18_fit) (by kernel_rfl)).to (eq18)
noncomputable def s18 : Summ Try.prog := reads18.summ
/- chicane/tyre.Slip$1 -/
noncomputable def c17 : Code := (Try.f17.body.getD .skip)
noncomputable def env17 : Env Try.prog := ⟨[s19, s18], none⟩
noncomputable def s17 : Summ Try.prog := inlSumm allRw mixed 17 Try.f17 c17 Try.func17 (by kernel_rfl) (by kernel_rfl) env17 200 [] (Loops.fit_nil)
/- chicane/tyre.Slip -/
noncomputable def c8 : Code := (Try.f8.body.getD .skip)
noncomputable def env8 : Env Try.prog := ⟨[s16, s17, s20], none⟩
noncomputable def L8 : Loops Try.prog := []
theorem L8_fit : (L8).fit c8 := Loops.fit_nil
noncomputable def law8 (m : MT) (x : (Int × Int × Int × Unit)) : Option (MT × (Int × Int × Unit)) := (Option.bind (fn16 m (x.fst, ())) fun v0 => (Option.bind (fn20 v0.fst (x.snd.snd.fst, x.fst, ())) fun v1 => (Option.bind (fn19 v1.fst (v1.snd.fst, if 4294967296 > v0.snd.fst then 4294967296 else v0.snd.fst, ())) fun v2 => (Option.bind (fn18 (v2.snd.fst, -17179869184, 17179869184, ())) fun v3 => (Option.bind (fn19 v2.fst (x.snd.fst, if 4294967296 > v0.snd.fst then 4294967296 else v0.snd.fst, ())) fun v4 => (Option.bind (fn18 (v4.snd.fst, -17179869184, 17179869184, ())) fun v5 => some (((v4.fst.fst, ()), v3.fst, v5.fst, ()))))))))
theorem eq8 (m : MSh.T) (x : Sh.Ts [Sh.int IntKind.i64, Sh.int IntKind.i64, Sh.int IntKind.i64]) : codeLawM Try.prog env8 200 (L8) Try.f8 c8 (MSh) [.int .i64, .int .i64, .int .i64] [.int .i64, .int .i64] m x = law8 m x := by kernel_rfl
noncomputable def fn8 (m : MT) (x : (Int × Int × Int × Unit)) : Option (MT × (Int × Int × Unit)) := law8 m x
theorem acts8 : Acts Try.prog 8 (MSh) [.int .i64, .int .i64, .int .i64] [.int .i64, .int .i64] fn8 := (Acts.of_code mixed (fn := Try.f8) (c := c8) Try.func8 (by kernel_rfl) (by kernel_rfl) env8 200 (L8_fit) (by kernel_rfl) (by kernel_rfl)).to (eq8)
noncomputable def s8 : Summ Try.prog := acts8.summ (by kernel_rfl)
/- slices.IndexFunc[[]chicane/api.Fx,chicane/api.Fx] -/
noncomputable def ci77 : Code := (Try.f77.body.getD .skip)
noncomputable def envi77 : Env Try.prog := ⟨[s63], none⟩
noncomputable def i77 : Summ Try.prog := inlSumm onlyM mixed 77 Try.f77 ci77 Try.func77 (by kernel_rfl) (by kernel_rfl) envi77 200 [] (Loops.fit_nil)
/- slices.ContainsFunc[[]chicane/api.Fx,chicane/api.Fx] -/
noncomputable def ci62 : Code := (Try.f62.body.getD .skip)
noncomputable def envi62 : Env Try.prog := ⟨[i77], none⟩
noncomputable def i62 : Summ Try.prog := inlSumm onlyM mixed 62 Try.f62 ci62 Try.func62 (by kernel_rfl) (by kernel_rfl) envi62 200 [] (Loops.fit_nil)
/- chicane/pane.Right$1 -/
noncomputable def ci61 : Code := (Try.f61.body.getD .skip)
noncomputable def envi61 : Env Try.prog := ⟨[i62, s63], none⟩
noncomputable def i61 : Summ Try.prog := inlSumm onlyM mixed 61 Try.f61 ci61 Try.func61 (by kernel_rfl) (by kernel_rfl) envi61 200 [] (Loops.fit_nil)
/- slices.IndexFunc[[][]chicane/api.Fx,[]chicane/api.Fx] -/
noncomputable def ci80 : Code := (Try.f80.body.getD .skip)
noncomputable def envi80 : Env Try.prog := ⟨[i61, s79], none⟩
noncomputable def i80 : Summ Try.prog := inlSumm onlyM mixed 80 Try.f80 ci80 Try.func80 (by kernel_rfl) (by kernel_rfl) envi80 200 [] (Loops.fit_nil)
/- slices.ContainsFunc[[][]chicane/api.Fx,[]chicane/api.Fx] -/
noncomputable def ci65 : Code := (Try.f65.body.getD .skip)
noncomputable def envi65 : Env Try.prog := ⟨[i80], none⟩
noncomputable def i65 : Summ Try.prog := inlSumm onlyM mixed 65 Try.f65 ci65 Try.func65 (by kernel_rfl) (by kernel_rfl) envi65 200 [] (Loops.fit_nil)
/- chicane/pane.counted -/
noncomputable def ci64 : Code := (Try.f64.body.getD .skip)
noncomputable def envi64 : Env Try.prog := ⟨[s78, s79, i65], none⟩
noncomputable def i64 : Summ Try.prog := inlSumm onlyM mixed 64 Try.f64 ci64 Try.func64 (by kernel_rfl) (by kernel_rfl) envi64 200 [] (Loops.fit_nil)
/- slices.IsSortedFunc[[]chicane/api.Fx,chicane/api.Fx] -/
noncomputable def ci81 : Code := (Try.f81.body.getD .skip)
noncomputable def envi81 : Env Try.prog := ⟨[s82], none⟩
noncomputable def i81 : Summ Try.prog := inlSumm onlyM mixed 81 Try.f81 ci81 Try.func81 (by kernel_rfl) (by kernel_rfl) envi81 200 [] (Loops.fit_nil)
/- chicane/pane.rises -/
noncomputable def ci66 : Code := (Try.f66.body.getD .skip)
noncomputable def envi66 : Env Try.prog := ⟨[i81, s82], none⟩
noncomputable def i66 : Summ Try.prog := inlSumm onlyM mixed 66 Try.f66 ci66 Try.func66 (by kernel_rfl) (by kernel_rfl) envi66 200 [] (Loops.fit_nil)
/- chicane/pane.Right -/
noncomputable def ci42 : Code := (Try.f42.body.getD .skip)
noncomputable def envi42 : Env Try.prog := ⟨[i61, i64, i65, i66], none⟩
noncomputable def i42 : Summ Try.prog := inlSumm onlyM mixed 42 Try.f42 ci42 Try.func42 (by kernel_rfl) (by kernel_rfl) envi42 200 [] (Loops.fit_nil)
/- chicane/pane.around -/
noncomputable def ci43 : Code := (Try.f43.body.getD .skip)
noncomputable def envi43 : Env Try.prog := ⟨[s67], none⟩
noncomputable def i43 : Summ Try.prog := inlSumm onlyM mixed 43 Try.f43 ci43 Try.func43 (by kernel_rfl) (by kernel_rfl) envi43 200 [] (Loops.fit_nil)
/- chicane/pane.Row -/
noncomputable def ci45 : Code := (Try.f45.body.getD .skip)
noncomputable def envi45 : Env Try.prog := ⟨[], none⟩
noncomputable def i45 : Summ Try.prog := inlSumm onlyM mixed 45 Try.f45 ci45 Try.func45 (by kernel_rfl) (by kernel_rfl) envi45 200 [] (Loops.fit_nil)
/- chicane/pane.Eval -/
noncomputable def ci31 : Code := (Try.f31.body.getD .skip)
noncomputable def envi31 : Env Try.prog := ⟨[i42, i43, i45, s44], none⟩
noncomputable def rci31o0 : Code := ((subAt ci31 [0, 1, 0, 1, 1, 1]).getD .skip)
noncomputable def rii31o0 : Code := (Try.f68.body.getD .skip)
noncomputable def rsi31o0 : LSumm Try.prog := rangeSumm mixed envi31 (fun _ => True.intro) 200 [] (rgG rci31o0) (rgP rci31o0) (rgA rci31o0) (rgB rci31o0) Loops.fit_nil [] 200 (fun _ => []) 68 Try.f68 rii31o0 Try.func68 (by kernel_rfl) (by kernel_rfl) (by kernel_rfl) (fun _ => Loops.fit_nil)
noncomputable def i31 : Summ Try.prog := inlSumm onlyM mixed 31 Try.f31 ci31 Try.func31 (by kernel_rfl) (by kernel_rfl) envi31 200 [([0, 1, 0, 1, 1, 1], rsi31o0)] (Loops.fit_cons (by kernel_rfl) (Loops.fit_nil))
/- chicane/tyre.Grip -/
noncomputable def ci14 : Code := (Try.f14.body.getD .skip)
noncomputable def envi14 : Env Try.prog := ⟨[s16, i31], none⟩
noncomputable def i14 : Summ Try.prog := inlSumm onlyM mixed 14 Try.f14 ci14 Try.func14 (by kernel_rfl) (by kernel_rfl) envi14 200 [] (Loops.fit_nil)
/- chicane/tyre.Force -/
noncomputable def ci11 : Code := (Try.f11.body.getD .skip)
noncomputable def envi11 : Env Try.prog := ⟨[s13, s12, i14, s23, s24], none⟩
noncomputable def i11 : Summ Try.prog := inlSumm onlyM mixed 11 Try.f11 ci11 Try.func11 (by kernel_rfl) (by kernel_rfl) envi11 200 [] (Loops.fit_nil)
/- chicane/chicanelaw26.awake -/
noncomputable def c7 : Code := (Try.f7.body.getD .skip)
noncomputable def env7 : Env Try.prog := ⟨[s15, s8, i11, i14], none⟩
noncomputable def fn7 (x : (Unit)) : Option ((Bool × Unit)) := some (true, ())
theorem eq7 (x : Sh.Ts []) : codeLaw Try.prog env7 200 [] Try.f7 c7 [] [.bool] x = fn7 x := by kernel_rfl
theorem reads7 : Reads Try.prog 7 [] [.bool] fn7 := (Reads.of_code mixed (fn := Try.f7) (c := c7) Try.func7 (by kernel_rfl) (by kernel_rfl) env7 200 (Loops.fit_nil) (by kernel_rfl)).to eq7
noncomputable def s7 : Summ Try.prog := reads7.summ
/- chicane/chicanelaw26.TyreSlows -/
noncomputable def c4 : Code := (Try.f4.body.getD .skip)
noncomputable def env4 : Env Try.prog := ⟨[s9, s10, s11, s7], none⟩
noncomputable def L4 : Loops Try.prog := []
theorem L4_fit : (L4).fit c4 := Loops.fit_nil
noncomputable def law4 (x : (CarT × (Int × Int × Int × Int × Unit) × Unit)) : Option ((Bool × Unit)) := (Option.bind (fn9 (x.fst, ())) fun v0 => (bif !v0.fst then some ((true, ())) else (Option.bind (fn10 x) fun v1 => (bif !v1.fst then some ((true, ())) else (Option.bind (fn11 (false, ()) (x.fst, x.snd.fst)) fun v2 => (bif !v2.fst.fst then (bif decide (x.snd.fst.snd.snd.fst < 0) then (bif decide (x.snd.fst.snd.snd.fst > 0) then (bif decide (x.snd.fst.snd.snd.snd.fst < 0) then (bif decide (x.snd.fst.snd.snd.snd.fst > 0) then some ((true, ())) else (bif decide (v2.snd.snd.fst ≥ 0) then some ((true, ())) else some ((false, ())))) else (bif decide (v2.snd.snd.fst ≤ 0) then (bif decide (x.snd.fst.snd.snd.snd.fst > 0) then some ((true, ())) else (bif decide (v2.snd.snd.fst ≥ 0) then some ((true, ())) else some ((false, ())))) else some ((false, ())))) else (bif decide (v2.snd.fst ≤ 0) then (bif decide (x.snd.fst.snd.snd.snd.fst < 0) then (bif decide (x.snd.fst.snd.snd.snd.fst > 0) then some ((true, ())) else (bif decide (v2.snd.snd.fst ≥ 0) then some ((true, ())) else some ((false, ())))) else (bif decide (v2.snd.snd.fst ≤ 0) then (bif decide (x.snd.fst.snd.snd.snd.fst > 0) then some ((true, ())) else (bif decide (v2.snd.snd.fst ≥ 0) then some ((true, ())) else some ((false, ())))) else some ((false, ())))) else some ((false, ())))) else (bif decide (v2.snd.fst ≥ 0) then (bif decide (x.snd.fst.snd.snd.fst > 0) then (bif decide (x.snd.fst.snd.snd.snd.fst < 0) then (bif decide (x.snd.fst.snd.snd.snd.fst > 0) then some ((true, ())) else (bif decide (v2.snd.snd.fst ≥ 0) then some ((true, ())) else some ((false, ())))) else (bif decide (v2.snd.snd.fst ≤ 0) then (bif decide (x.snd.fst.snd.snd.snd.fst > 0) then some ((true, ())) else (bif decide (v2.snd.snd.fst ≥ 0) then some ((true, ())) else some ((false, ())))) else some ((false, ())))) else (bif decide (v2.snd.fst ≤ 0) then (bif decide (x.snd.fst.snd.snd.snd.fst < 0) then (bif decide (x.snd.fst.snd.snd.snd.fst > 0) then some ((true, ())) else (bif decide (v2.snd.snd.fst ≥ 0) then some ((true, ())) else some ((false, ())))) else (bif decide (v2.snd.snd.fst ≤ 0) then (bif decide (x.snd.fst.snd.snd.snd.fst > 0) then some ((true, ())) else (bif decide (v2.snd.snd.fst ≥ 0) then some ((true, ())) else some ((false, ())))) else some ((false, ())))) else some ((false, ())))) else some ((false, ())))) else some ((false, ()))))))))
theorem eq4 (x : Sh.Ts [CarSh, Sh.st [Sh.int IntKind.i64, Sh.int IntKind.i64, Sh.int IntKind.i64, Sh.int IntKind.i64]]) : codeLaw Try.prog env4 200 (L4) Try.f4 c4 [CarSh, .st [.int .i64, .int .i64, .int .i64, .int .i64]] [.bool] x = law4 x := by
  have h : codeLaw Try.prog env4 200 (L4) Try.f4 c4 [CarSh, .st [.int .i64, .int .i64, .int .i64, .int .i64]] [.bool] x = (bif decide (List.length x.fst.snd.snd.snd.snd.fst = List.length x.fst.snd.snd.snd.snd.fst) && (decide (List.length x.fst.snd.snd.snd.snd.snd.fst.fst = List.length x.fst.snd.snd.snd.snd.snd.fst.fst) && (decide (List.length x.fst.snd.snd.snd.snd.snd.fst.snd.fst = List.length x.fst.snd.snd.snd.snd.snd.fst.snd.fst) && (decide (List.length x.fst.snd.snd.snd.snd.snd.fst.snd.snd.fst = List.length x.fst.snd.snd.snd.snd.snd.fst.snd.snd.fst) && true)) && (decide (List.length x.fst.snd.snd.snd.snd.snd.snd.fst = List.length x.fst.snd.snd.snd.snd.snd.snd.fst) && (decide (List.length x.fst.snd.snd.snd.snd.snd.snd.snd.fst = List.length x.fst.snd.snd.snd.snd.snd.snd.snd.fst) && (decide (List.length x.fst.snd.snd.snd.snd.snd.snd.snd.snd.snd.snd.snd.snd.snd.snd.snd.snd.fst = List.length x.fst.snd.snd.snd.snd.snd.snd.snd.snd.snd.snd.snd.snd.snd.snd.snd.snd.fst) && true)))) && true then (Option.bind (fn9 (x.fst, ())) fun v0 => (bif !v0.fst then some ((true, ())) else (bif decide (List.length x.fst.snd.snd.snd.snd.fst = List.length x.fst.snd.snd.snd.snd.fst) && (decide (List.length x.fst.snd.snd.snd.snd.snd.fst.fst = List.length x.fst.snd.snd.snd.snd.snd.fst.fst) && (decide (List.length x.fst.snd.snd.snd.snd.snd.fst.snd.fst = List.length x.fst.snd.snd.snd.snd.snd.fst.snd.fst) && (decide (List.length x.fst.snd.snd.snd.snd.snd.fst.snd.snd.fst = List.length x.fst.snd.snd.snd.snd.snd.fst.snd.snd.fst) && true)) && (decide (List.length x.fst.snd.snd.snd.snd.snd.snd.fst = List.length x.fst.snd.snd.snd.snd.snd.snd.fst) && (decide (List.length x.fst.snd.snd.snd.snd.snd.snd.snd.fst = List.length x.fst.snd.snd.snd.snd.snd.snd.snd.fst) && (decide (List.length x.fst.snd.snd.snd.snd.snd.snd.snd.snd.snd.snd.snd.snd.snd.snd.snd.snd.fst = List.length x.fst.snd.snd.snd.snd.snd.snd.snd.snd.snd.snd.snd.snd.snd.snd.snd.snd.fst) && true)))) && true then (Option.bind (fn10 x) fun v1 => (bif !v1.fst then some ((true, ())) else (bif decide (List.length x.fst.snd.snd.snd.snd.fst = List.length x.fst.snd.snd.snd.snd.fst) && (decide (List.length x.fst.snd.snd.snd.snd.snd.fst.fst = List.length x.fst.snd.snd.snd.snd.snd.fst.fst) && (decide (List.length x.fst.snd.snd.snd.snd.snd.fst.snd.fst = List.length x.fst.snd.snd.snd.snd.snd.fst.snd.fst) && (decide (List.length x.fst.snd.snd.snd.snd.snd.fst.snd.snd.fst = List.length x.fst.snd.snd.snd.snd.snd.fst.snd.snd.fst) && true)) && (decide (List.length x.fst.snd.snd.snd.snd.snd.snd.fst = List.length x.fst.snd.snd.snd.snd.snd.snd.fst) && (decide (List.length x.fst.snd.snd.snd.snd.snd.snd.snd.fst = List.length x.fst.snd.snd.snd.snd.snd.snd.snd.fst) && (decide (List.length x.fst.snd.snd.snd.snd.snd.snd.snd.snd.snd.snd.snd.snd.snd.snd.snd.snd.fst = List.length x.fst.snd.snd.snd.snd.snd.snd.snd.snd.snd.snd.snd.snd.snd.snd.snd.snd.fst) && true)))) && true then (Option.bind (fn11 (false, ()) (x.fst, x.snd.fst)) fun v2 => (bif !v2.fst.fst then (bif decide (x.snd.fst.snd.snd.fst < 0) then (bif decide (x.snd.fst.snd.snd.fst > 0) then (bif decide (x.snd.fst.snd.snd.snd.fst < 0) then (bif decide (x.snd.fst.snd.snd.snd.fst > 0) then some ((true, ())) else (bif decide (v2.snd.snd.fst ≥ 0) then some ((true, ())) else some ((false, ())))) else (bif decide (v2.snd.snd.fst ≤ 0) then (bif decide (x.snd.fst.snd.snd.snd.fst > 0) then some ((true, ())) else (bif decide (v2.snd.snd.fst ≥ 0) then some ((true, ())) else some ((false, ())))) else some ((false, ())))) else (bif decide (v2.snd.fst ≤ 0) then (bif decide (x.snd.fst.snd.snd.snd.fst < 0) then (bif decide (x.snd.fst.snd.snd.snd.fst > 0) then some ((true, ())) else (bif decide (v2.snd.snd.fst ≥ 0) then some ((true, ())) else some ((false, ())))) else (bif decide (v2.snd.snd.fst ≤ 0) then (bif decide (x.snd.fst.snd.snd.snd.fst > 0) then some ((true, ())) else (bif decide (v2.snd.snd.fst ≥ 0) then some ((true, ())) else some ((false, ())))) else some ((false, ())))) else some ((false, ())))) else (bif decide (v2.snd.fst ≥ 0) then (bif decide (x.snd.fst.snd.snd.fst > 0) then (bif decide (x.snd.fst.snd.snd.snd.fst < 0) then (bif decide (x.snd.fst.snd.snd.snd.fst > 0) then some ((true, ())) else (bif decide (v2.snd.snd.fst ≥ 0) then some ((true, ())) else some ((false, ())))) else (bif decide (v2.snd.snd.fst ≤ 0) then (bif decide (x.snd.fst.snd.snd.snd.fst > 0) then some ((true, ())) else (bif decide (v2.snd.snd.fst ≥ 0) then some ((true, ())) else some ((false, ())))) else some ((false, ())))) else (bif decide (v2.snd.fst ≤ 0) then (bif decide (x.snd.fst.snd.snd.snd.fst < 0) then (bif decide (x.snd.fst.snd.snd.snd.fst > 0) then some ((true, ())) else (bif decide (v2.snd.snd.fst ≥ 0) then some ((true, ())) else some ((false, ())))) else (bif decide (v2.snd.snd.fst ≤ 0) then (bif decide (x.snd.fst.snd.snd.snd.fst > 0) then some ((true, ())) else (bif decide (v2.snd.snd.fst ≥ 0) then some ((true, ())) else some ((false, ())))) else some ((false, ())))) else some ((false, ())))) else some ((false, ())))) else some ((false, ())))) else none))) else none))) else none) := by kernel_rfl
  rw [h]
  unfold law4
  simp only [decide_self, decide_true, Nat.zero_add, Bool.and_true, Bool.true_and, cond_true]
noncomputable def fn4 (x : (CarT × (Int × Int × Int × Int × Unit) × Unit)) : Option ((Bool × Unit)) := law4 x
theorem reads4 : Reads Try.prog 4 [CarSh, .st [.int .i64, .int .i64, .int .i64, .int .i64]] [.bool] fn4 := (Reads.of_code mixed (fn := Try.f4) (c := c4) Try.func4 (by kernel_rfl) (by kernel_rfl) env4 200 (L4_fit) (by kernel_rfl)).to (eq4)
noncomputable def s4 : Summ Try.prog := reads4.summ
/- chicane/chicanelaw26.TyreMost -/
noncomputable def c5 : Code := (Try.f5.body.getD .skip)
noncomputable def env5 : Env Try.prog := ⟨[s9, s10, s11, s13, s12, s7, s14], none⟩
noncomputable def L5 : Loops Try.prog := []
theorem L5_fit : (L5).fit c5 := Loops.fit_nil
noncomputable def law5 (x : (CarT × (Int × Int × Int × Int × Unit) × Unit)) : Option ((Bool × Unit)) := (Option.bind (fn9 (x.fst, ())) fun v0 => (bif !v0.fst then some ((true, ())) else (Option.bind (fn10 x) fun v1 => (bif !v1.fst then some ((true, ())) else (Option.bind (fn11 (false, ()) (x.fst, x.snd.fst)) fun v2 => (Option.bind (fn13 v2.fst (x.fst.snd.snd.snd.snd.snd.snd.snd.snd.fst, x.snd.fst.snd.snd.snd)) fun v3 => (Option.bind (fn12 v3.fst (x.snd.fst.snd.snd.fst, v3.snd)) fun v4 => (bif decide (v4.snd.fst < 16777216) then (bif !v4.fst.fst then some ((true, ())) else some ((false, ()))) else (Option.bind (fn14 v4.fst (x.fst, x.snd.fst.fst, v4.snd)) fun v5 => (Option.bind (fn13 v5.fst (v5.snd.fst, x.snd.fst.snd.fst, ())) fun v6 => (Option.bind (fn13 v6.fst (x.snd.fst.fst, v6.snd)) fun v7 => (bif !v7.fst.fst then (Option.bind (fn12 v7.fst v2.snd) fun v8 => (bif decide (v8.snd.fst ≤ IntKind.i64.wrap (v7.snd.fst + 4294967296)) then some ((true, ())) else some ((false, ())))) else some ((false, ()))))))))))))))
theorem eq5 (x : Sh.Ts [CarSh, Sh.st [Sh.int IntKind.i64, Sh.int IntKind.i64, Sh.int IntKind.i64, Sh.int IntKind.i64]]) : codeLaw Try.prog env5 200 (L5) Try.f5 c5 [CarSh, .st [.int .i64, .int .i64, .int .i64, .int .i64]] [.bool] x = law5 x := by
  have h : codeLaw Try.prog env5 200 (L5) Try.f5 c5 [CarSh, .st [.int .i64, .int .i64, .int .i64, .int .i64]] [.bool] x = (bif decide (List.length x.fst.snd.snd.snd.snd.fst = List.length x.fst.snd.snd.snd.snd.fst) && (decide (List.length x.fst.snd.snd.snd.snd.snd.fst.fst = List.length x.fst.snd.snd.snd.snd.snd.fst.fst) && (decide (List.length x.fst.snd.snd.snd.snd.snd.fst.snd.fst = List.length x.fst.snd.snd.snd.snd.snd.fst.snd.fst) && (decide (List.length x.fst.snd.snd.snd.snd.snd.fst.snd.snd.fst = List.length x.fst.snd.snd.snd.snd.snd.fst.snd.snd.fst) && true)) && (decide (List.length x.fst.snd.snd.snd.snd.snd.snd.fst = List.length x.fst.snd.snd.snd.snd.snd.snd.fst) && (decide (List.length x.fst.snd.snd.snd.snd.snd.snd.snd.fst = List.length x.fst.snd.snd.snd.snd.snd.snd.snd.fst) && (decide (List.length x.fst.snd.snd.snd.snd.snd.snd.snd.snd.snd.snd.snd.snd.snd.snd.snd.snd.fst = List.length x.fst.snd.snd.snd.snd.snd.snd.snd.snd.snd.snd.snd.snd.snd.snd.snd.snd.fst) && true)))) && true then (Option.bind (fn9 (x.fst, ())) fun v0 => (bif !v0.fst then some ((true, ())) else (bif decide (List.length x.fst.snd.snd.snd.snd.fst = List.length x.fst.snd.snd.snd.snd.fst) && (decide (List.length x.fst.snd.snd.snd.snd.snd.fst.fst = List.length x.fst.snd.snd.snd.snd.snd.fst.fst) && (decide (List.length x.fst.snd.snd.snd.snd.snd.fst.snd.fst = List.length x.fst.snd.snd.snd.snd.snd.fst.snd.fst) && (decide (List.length x.fst.snd.snd.snd.snd.snd.fst.snd.snd.fst = List.length x.fst.snd.snd.snd.snd.snd.fst.snd.snd.fst) && true)) && (decide (List.length x.fst.snd.snd.snd.snd.snd.snd.fst = List.length x.fst.snd.snd.snd.snd.snd.snd.fst) && (decide (List.length x.fst.snd.snd.snd.snd.snd.snd.snd.fst = List.length x.fst.snd.snd.snd.snd.snd.snd.snd.fst) && (decide (List.length x.fst.snd.snd.snd.snd.snd.snd.snd.snd.snd.snd.snd.snd.snd.snd.snd.snd.fst = List.length x.fst.snd.snd.snd.snd.snd.snd.snd.snd.snd.snd.snd.snd.snd.snd.snd.snd.fst) && true)))) && true then (Option.bind (fn10 x) fun v1 => (bif !v1.fst then some ((true, ())) else (bif decide (List.length x.fst.snd.snd.snd.snd.fst = List.length x.fst.snd.snd.snd.snd.fst) && (decide (List.length x.fst.snd.snd.snd.snd.snd.fst.fst = List.length x.fst.snd.snd.snd.snd.snd.fst.fst) && (decide (List.length x.fst.snd.snd.snd.snd.snd.fst.snd.fst = List.length x.fst.snd.snd.snd.snd.snd.fst.snd.fst) && (decide (List.length x.fst.snd.snd.snd.snd.snd.fst.snd.snd.fst = List.length x.fst.snd.snd.snd.snd.snd.fst.snd.snd.fst) && true)) && (decide (List.length x.fst.snd.snd.snd.snd.snd.snd.fst = List.length x.fst.snd.snd.snd.snd.snd.snd.fst) && (decide (List.length x.fst.snd.snd.snd.snd.snd.snd.snd.fst = List.length x.fst.snd.snd.snd.snd.snd.snd.snd.fst) && (decide (List.length x.fst.snd.snd.snd.snd.snd.snd.snd.snd.snd.snd.snd.snd.snd.snd.snd.snd.fst = List.length x.fst.snd.snd.snd.snd.snd.snd.snd.snd.snd.snd.snd.snd.snd.snd.snd.snd.fst) && true)))) && true then (Option.bind (fn11 (false, ()) (x.fst, x.snd.fst)) fun v2 => (Option.bind (fn13 v2.fst (x.fst.snd.snd.snd.snd.snd.snd.snd.snd.fst, x.snd.fst.snd.snd.snd)) fun v3 => (Option.bind (fn12 v3.fst (x.snd.fst.snd.snd.fst, v3.snd)) fun v4 => (bif decide (v4.snd.fst < 16777216) then (bif !v4.fst.fst then some ((true, ())) else some ((false, ()))) else (bif decide (List.length x.fst.snd.snd.snd.snd.fst = List.length x.fst.snd.snd.snd.snd.fst) && (decide (List.length x.fst.snd.snd.snd.snd.snd.fst.fst = List.length x.fst.snd.snd.snd.snd.snd.fst.fst) && (decide (List.length x.fst.snd.snd.snd.snd.snd.fst.snd.fst = List.length x.fst.snd.snd.snd.snd.snd.fst.snd.fst) && (decide (List.length x.fst.snd.snd.snd.snd.snd.fst.snd.snd.fst = List.length x.fst.snd.snd.snd.snd.snd.fst.snd.snd.fst) && true)) && (decide (List.length x.fst.snd.snd.snd.snd.snd.snd.fst = List.length x.fst.snd.snd.snd.snd.snd.snd.fst) && (decide (List.length x.fst.snd.snd.snd.snd.snd.snd.snd.fst = List.length x.fst.snd.snd.snd.snd.snd.snd.snd.fst) && (decide (List.length x.fst.snd.snd.snd.snd.snd.snd.snd.snd.snd.snd.snd.snd.snd.snd.snd.snd.fst = List.length x.fst.snd.snd.snd.snd.snd.snd.snd.snd.snd.snd.snd.snd.snd.snd.snd.snd.fst) && true)))) && true then (Option.bind (fn14 v4.fst (x.fst, x.snd.fst.fst, v4.snd)) fun v5 => (Option.bind (fn13 v5.fst (v5.snd.fst, x.snd.fst.snd.fst, ())) fun v6 => (Option.bind (fn13 v6.fst (x.snd.fst.fst, v6.snd)) fun v7 => (bif !v7.fst.fst then (Option.bind (fn12 v7.fst v2.snd) fun v8 => (bif decide (v8.snd.fst ≤ IntKind.i64.wrap (v7.snd.fst + 4294967296)) then some ((true, ())) else some ((false, ())))) else some ((false, ())))))) else none))))) else none))) else none))) else none) := by kernel_rfl
  rw [h]
  unfold law5
  simp only [decide_self, decide_true, Nat.zero_add, Bool.and_true, Bool.true_and, cond_true]
noncomputable def fn5 (x : (CarT × (Int × Int × Int × Int × Unit) × Unit)) : Option ((Bool × Unit)) := law5 x
theorem reads5 : Reads Try.prog 5 [CarSh, .st [.int .i64, .int .i64, .int .i64, .int .i64]] [.bool] fn5 := (Reads.of_code mixed (fn := Try.f5) (c := c5) Try.func5 (by kernel_rfl) (by kernel_rfl) env5 200 (L5_fit) (by kernel_rfl)).to (eq5)
noncomputable def s5 : Summ Try.prog := reads5.summ
end Go.Proofs.Ythlfckhjhagfaaa
