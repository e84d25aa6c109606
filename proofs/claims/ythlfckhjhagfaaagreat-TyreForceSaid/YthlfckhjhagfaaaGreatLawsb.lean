/- What functions of this program tell of their arguments: for each a law, and that the function keeps to it. -/
import Derived.Test.YthlfckhjhagfaaaGreatLawsa
set_option linter.unusedVariables false
set_option linter.unusedSimpArgs false
set_option maxRecDepth 100000
namespace Go.Proofs.YthlfckhjhagfaaaGreat
open Go Go.Ab Go.Proofs
open Go.IntKind (u64 i64)
noncomputable def c74x51 : Code := (Tryz.f74.body.getD .skip)
noncomputable def env74x51 : Env Tryz.prog := ⟨[s51], none⟩
noncomputable def b74x51_0 : Code := ((kid ((subAt c74x51 [0, 1, 0, 1]).getD .skip) 0).getD .skip)
noncomputable def kx74x51_0 : Exit → List Nat | .ret => [4] | _ => []
noncomputable def Li74x51_0 (N0 : Nat) : Loops Tryz.prog := []
noncomputable def ls74x51_0 (N0 : Nat) : LSumm Tryz.prog := loopSumm mixed env74x51 200 (Li74x51_0 N0) b74x51_0 (Loops.fit_nil) [0, 1, 7, 8] kx74x51_0 (N0)
noncomputable def ln74x51_0 {β : Type} (N0 n : Nat) (t : List AV) (h : Heap) (K : Exit → List AV → Heap → Option β) : Option β := loopN Tryz.prog env74x51 (Sh.nes [.rows (.int .i64)] + Sh.nes [] + List.length (α := Sh) []) 200 (Li74x51_0 N0) b74x51_0 [0, 1, 7, 8] kx74x51_0 n t h K
noncomputable def L74x51 (N0 : Nat) : Loops Tryz.prog := [([0, 1, 0, 1], ls74x51_0 N0)]
theorem L74x51_fit (N0 : Nat) : (L74x51 N0).fit c74x51 := Loops.fit_cons (by kernel_rfl) (Loops.fit_nil)
noncomputable def K74x51 : Exit → List AV → Heap → Option (Sh.Ts [.int .i64]) := fun e t h => outK (P := Tryz.prog) Tryz.f74 [.int .i64] e t h
noncomputable def rk74x51_0 (N0 : Nat) : Exit → List AV → Heap → Option (Sh.Ts [.int .i64]) := (blkK 0 (seqK Tryz.prog env74x51 (Sh.nes [.rows (.int .i64)] + Sh.nes [] + List.length (α := Sh) []) 198 (L74x51 N0) [1, 1] ((subAt c74x51 [1, 1]).getD .skip) K74x51))
noncomputable def t74x51_0 (N0 : Nat) (x : Sh.Ts [(Sh.int i64).rows]) (i6 : Int) : List AV := [AV.slc 0 0 (List.length x.fst) Cap.low, AV.fn (Fn.func 51) [] [], AV.any, AV.any, AV.any, AV.any, AV.any, vI (↑(List.length x.fst) : Int), vI i6, AV.any, AV.any, AV.any, AV.any, AV.any, AV.any, AV.any, AV.any, AV.any, AV.any]
noncomputable def h74x51_0 (N0 : Nat) (x : Sh.Ts [(Sh.int i64).rows]) (i6 : Int) : Heap := [Ent.live (Blk.mk (Cells.arrs (Sh.int i64) x.fst) false none)]
noncomputable def tx74x51_0_0 (N0 : Nat) (x : Sh.Ts [(Sh.int i64).rows]) (w9 : Int) : List AV := [AV.any, AV.any, AV.any, AV.any, vI w9, AV.any, AV.any, AV.any, AV.any, AV.any, AV.any, AV.any, AV.any, AV.any, AV.any, AV.any, AV.any, AV.any, AV.any]
noncomputable def hx74x51_0_0 (N0 : Nat) (x : Sh.Ts [(Sh.int i64).rows]) (w9 : Int) : Heap := [Ent.live (Blk.mk (Cells.arrs (Sh.int i64) x.fst) false none)]
noncomputable def tx74x51_0_1 (N0 : Nat) (x : Sh.Ts [(Sh.int i64).rows]) : List AV := [AV.any, AV.any, AV.any, AV.any, AV.any, AV.any, AV.any, AV.any, AV.any, AV.any, AV.any, AV.any, AV.any, AV.any, AV.any, AV.any, AV.any, AV.any, AV.any]
noncomputable def hx74x51_0_1 (N0 : Nat) (x : Sh.Ts [(Sh.int i64).rows]) : Heap := [Ent.live (Blk.mk (Cells.arrs (Sh.int i64) x.fst) false none)]
noncomputable def law74x51_0 {β : Type} (N0 : Nat) (x : ((List (List Int)) × Unit)) (k0 : Int → Option β) (k1 : Option β) : Nat → Int → Option β
  | 0, _ => none
  | n + 1, i6 => (bif decide (i6 < (↑(List.length x.fst) : Int)) then (bif decide (0 ≤ i6) && decide (i6 < (↑(List.length x.fst) : Int)) then (Option.bind x.fst[i6.toNat]? fun v7 => ((fn51 (v7, ())).bind fun v8 => (bif v8.fst then k0 i6 else law74x51_0 N0 x k0 k1 n (i64.wrap (i6 + 1))))) else none) else k1)
theorem leq74x51_0 {β : Type} (N0 : Nat) (x : Sh.Ts [(Sh.int i64).rows]) (K : Exit → List AV → Heap → Option β) : ∀ (n : Nat) (i6 : Int), ln74x51_0 N0 n (t74x51_0 N0 x i6) (h74x51_0 N0 x i6) K = law74x51_0 N0 x (fun w9 => K (Exit.ret) (tx74x51_0_0 N0 x w9) (hx74x51_0_0 N0 x w9)) (K (Exit.exit 0) (tx74x51_0_1 N0 x) (hx74x51_0_1 N0 x)) n i6
  | 0, _ => rfl
  | n + 1, i6 => by
    have h : ln74x51_0 N0 (n + 1) (t74x51_0 N0 x i6) (h74x51_0 N0 x i6) K = (bif decide (i6 < (↑(List.length x.fst) : Int)) then (bif decide (0 ≤ i6) && decide (i6 < (↑(List.length x.fst) : Int)) then ((x.fst[0 + i6.toNat]?).bind fun v7 => (bif decide (v7.length = v7.length) && true then ((fn51 (v7, ())).bind fun v8 => (bif v8.fst then K (Exit.ret) (tx74x51_0_0 N0 x i6) (hx74x51_0_0 N0 x i6) else ln74x51_0 N0 n (t74x51_0 N0 x (i64.wrap (i6 + 1))) (h74x51_0 N0 x (i64.wrap (i6 + 1))) K)) else none)) else none) else K (Exit.exit 0) (tx74x51_0_1 N0 x) (hx74x51_0_1 N0 x)) := by kernel_rfl
    rw [h]
    simp only [decide_self, decide_true, Nat.zero_add, Bool.and_true, Bool.true_and, cond_true, law74x51_0, leq74x51_0 N0 x K n]
theorem rest74x51_0_0 (N0 : Nat) (x : Sh.Ts [(Sh.int i64).rows]) (w10 : Int) : rk74x51_0 N0 (Exit.ret) (tx74x51_0_0 N0 x w10) (hx74x51_0_0 N0 x w10) = some ((w10, ())) := by kernel_rfl
theorem rest74x51_0_1 (N0 : Nat) (x : Sh.Ts [(Sh.int i64).rows]) : rk74x51_0 N0 (Exit.exit 0) (tx74x51_0_1 N0 x) (hx74x51_0_1 N0 x) = some ((-1, ())) := by kernel_rfl
noncomputable def law74x51 (N0 : Nat) (x : ((List (List Int)) × Unit)) (xs : (Unit)) : Option ((Int × Unit)) := (law74x51_0 N0 x (fun w10 => some ((w10, ()))) (some ((-1, ()))) N0 0)
theorem eq74x51 (N0 : Nat) (x : Sh.Ts [(Sh.int i64).rows]) (xs : Sh.Ts []) : codeLawC Tryz.prog env74x51 200 (L74x51 N0) Tryz.f74 c74x51 [.rows (.int .i64)] 51 [] [.int .i64] x xs = law74x51 N0 x xs := by
  have h : codeLawC Tryz.prog env74x51 200 (L74x51 N0) Tryz.f74 c74x51 [.rows (.int .i64)] 51 [] [.int .i64] x xs = (ln74x51_0 N0 N0 (t74x51_0 N0 x 0) (h74x51_0 N0 x 0) (rk74x51_0 N0)) := by kernel_rfl
  rw [h]
  unfold law74x51
  simp only [decide_self, decide_true, Nat.zero_add, Bool.and_true, Bool.true_and, cond_true, leq74x51_0, rest74x51_0_0, rest74x51_0_1]
noncomputable def fn74x51 := law74x51 (10 ^ 30)
theorem reads74x51 : ReadsC Tryz.prog 74 [.rows (.int .i64)] 51 [] [.int .i64] fn74x51 := (ReadsC.of_code mixed (fn := Tryz.f74) (c := c74x51) Tryz.func74 (by kernel_rfl) (by kernel_rfl) env74x51 200 (L74x51_fit _) (by kernel_rfl)).to (eq74x51 _)
noncomputable def s74x51 : Summ Tryz.prog := reads74x51.summ (by kernel_rfl)
noncomputable def c74x73 : Code := (Tryz.f74.body.getD .skip)
noncomputable def env74x73 : Env Tryz.prog := ⟨[s73], none⟩
noncomputable def b74x73_0 : Code := ((kid ((subAt c74x73 [0, 1, 0, 1]).getD .skip) 0).getD .skip)
noncomputable def kx74x73_0 : Exit → List Nat | .ret => [4] | _ => []
noncomputable def Li74x73_0 (N0 : Nat) : Loops Tryz.prog := []
noncomputable def ls74x73_0 (N0 : Nat) : LSumm Tryz.prog := loopSumm mixed env74x73 200 (Li74x73_0 N0) b74x73_0 (Loops.fit_nil) [0, 1, 7, 8] kx74x73_0 (N0)
noncomputable def ln74x73_0 {β : Type} (N0 n : Nat) (t : List AV) (h : Heap) (K : Exit → List AV → Heap → Option β) : Option β := loopN Tryz.prog env74x73 (Sh.nes [.rows (.int .i64)] + Sh.nes [PaneSh] + List.length (α := Sh) [PaneSh]) 200 (Li74x73_0 N0) b74x73_0 [0, 1, 7, 8] kx74x73_0 n t h K
noncomputable def L74x73 (N0 : Nat) : Loops Tryz.prog := [([0, 1, 0, 1], ls74x73_0 N0)]
theorem L74x73_fit (N0 : Nat) : (L74x73 N0).fit c74x73 := Loops.fit_cons (by kernel_rfl) (Loops.fit_nil)
noncomputable def K74x73 : Exit → List AV → Heap → Option (Sh.Ts [.int .i64]) := fun e t h => outK (P := Tryz.prog) Tryz.f74 [.int .i64] e t h
noncomputable def rk74x73_0 (N0 : Nat) : Exit → List AV → Heap → Option (Sh.Ts [.int .i64]) := (blkK 0 (seqK Tryz.prog env74x73 (Sh.nes [.rows (.int .i64)] + Sh.nes [PaneSh] + List.length (α := Sh) [PaneSh]) 198 (L74x73 N0) [1, 1] ((subAt c74x73 [1, 1]).getD .skip) K74x73))
noncomputable def t74x73_0 (N0 : Nat) (x : Sh.Ts [(Sh.int i64).rows]) (xs : Sh.Ts [PaneSh]) (i11 : Int) : List AV := [AV.slc 0 0 (List.length x.fst) Cap.low, AV.fn (Fn.func 73) [] [AV.ptr 4 0], AV.any, AV.any, AV.any, AV.any, AV.any, vI (↑(List.length x.fst) : Int), vI i11, AV.any, AV.any, AV.any, AV.any, AV.any, AV.any, AV.any, AV.any, AV.any, AV.any]
noncomputable def h74x73_0 (N0 : Nat) (x : Sh.Ts [(Sh.int i64).rows]) (xs : Sh.Ts [PaneSh]) (i11 : Int) : Heap := [Ent.live (Blk.mk (Cells.arrs (Sh.int i64) x.fst) false none), Ent.live (Blk.mk (Cells.arr (Sh.int i64) xs.fst.fst) false none), Ent.live (Blk.mk (Cells.arr (Sh.int i64) xs.fst.snd.fst) false none), Ent.live (Blk.mk (Cells.arrs (Sh.int i64) xs.fst.snd.snd.fst) false none), Ent.live (Blk.mk (Cells.lit [AV.slc 1 0 (List.length xs.fst.fst) Cap.low, AV.slc 2 0 (List.length xs.fst.snd.fst) Cap.low, AV.slc 3 0 (List.length xs.fst.snd.snd.fst) Cap.low]) false none)]
noncomputable def tx74x73_0_0 (N0 : Nat) (x : Sh.Ts [(Sh.int i64).rows]) (xs : Sh.Ts [PaneSh]) (w13 : Int) : List AV := [AV.any, AV.any, AV.any, AV.any, vI w13, AV.any, AV.any, AV.any, AV.any, AV.any, AV.any, AV.any, AV.any, AV.any, AV.any, AV.any, AV.any, AV.any, AV.any]
noncomputable def hx74x73_0_0 (N0 : Nat) (x : Sh.Ts [(Sh.int i64).rows]) (xs : Sh.Ts [PaneSh]) (w13 : Int) : Heap := [Ent.live (Blk.mk (Cells.arrs (Sh.int i64) x.fst) false none), Ent.live (Blk.mk (Cells.arr (Sh.int i64) xs.fst.fst) false none), Ent.live (Blk.mk (Cells.arr (Sh.int i64) xs.fst.snd.fst) false none), Ent.live (Blk.mk (Cells.arrs (Sh.int i64) xs.fst.snd.snd.fst) false none), Ent.live (Blk.mk (Cells.lit [AV.slc 1 0 (List.length xs.fst.fst) Cap.low, AV.slc 2 0 (List.length xs.fst.snd.fst) Cap.low, AV.slc 3 0 (List.length xs.fst.snd.snd.fst) Cap.low]) false none)]
noncomputable def tx74x73_0_1 (N0 : Nat) (x : Sh.Ts [(Sh.int i64).rows]) (xs : Sh.Ts [PaneSh]) : List AV := [AV.any, AV.any, AV.any, AV.any, AV.any, AV.any, AV.any, AV.any, AV.any, AV.any, AV.any, AV.any, AV.any, AV.any, AV.any, AV.any, AV.any, AV.any, AV.any]
noncomputable def hx74x73_0_1 (N0 : Nat) (x : Sh.Ts [(Sh.int i64).rows]) (xs : Sh.Ts [PaneSh]) : Heap := [Ent.live (Blk.mk (Cells.arrs (Sh.int i64) x.fst) false none), Ent.live (Blk.mk (Cells.arr (Sh.int i64) xs.fst.fst) false none), Ent.live (Blk.mk (Cells.arr (Sh.int i64) xs.fst.snd.fst) false none), Ent.live (Blk.mk (Cells.arrs (Sh.int i64) xs.fst.snd.snd.fst) false none), Ent.live (Blk.mk (Cells.lit [AV.slc 1 0 (List.length xs.fst.fst) Cap.low, AV.slc 2 0 (List.length xs.fst.snd.fst) Cap.low, AV.slc 3 0 (List.length xs.fst.snd.snd.fst) Cap.low]) false none)]
noncomputable def law74x73_0 {β : Type} (N0 : Nat) (x : ((List (List Int)) × Unit)) (xs : (PaneT × Unit)) (k0 : Int → Option β) (k1 : Option β) : Nat → Int → Option β
  | 0, _ => none
  | n + 1, i11 => (bif decide (i11 < (↑(List.length x.fst) : Int)) then (bif decide (0 ≤ i11) && decide (i11 < (↑(List.length x.fst) : Int)) then (Option.bind x.fst[i11.toNat]? fun v12 => (bif (↑v12.length : Int) != (↑(List.length xs.fst.fst) : Int) then k0 i11 else law74x73_0 N0 x xs k0 k1 n (i64.wrap (i11 + 1)))) else none) else k1)
theorem leq74x73_0 {β : Type} (N0 : Nat) (x : Sh.Ts [(Sh.int i64).rows]) (xs : Sh.Ts [PaneSh]) (K : Exit → List AV → Heap → Option β) : ∀ (n : Nat) (i11 : Int), ln74x73_0 N0 n (t74x73_0 N0 x xs i11) (h74x73_0 N0 x xs i11) K = law74x73_0 N0 x xs (fun w13 => K (Exit.ret) (tx74x73_0_0 N0 x xs w13) (hx74x73_0_0 N0 x xs w13)) (K (Exit.exit 0) (tx74x73_0_1 N0 x xs) (hx74x73_0_1 N0 x xs)) n i11
  | 0, _ => rfl
  | n + 1, i11 => by
    have h : ln74x73_0 N0 (n + 1) (t74x73_0 N0 x xs i11) (h74x73_0 N0 x xs i11) K = (bif decide (i11 < (↑(List.length x.fst) : Int)) then (bif decide (0 ≤ i11) && decide (i11 < (↑(List.length x.fst) : Int)) then ((x.fst[0 + i11.toNat]?).bind fun v12 => (bif (↑v12.length : Int) != (↑(List.length xs.fst.fst) : Int) then K (Exit.ret) (tx74x73_0_0 N0 x xs i11) (hx74x73_0_0 N0 x xs i11) else ln74x73_0 N0 n (t74x73_0 N0 x xs (i64.wrap (i11 + 1))) (h74x73_0 N0 x xs (i64.wrap (i11 + 1))) K)) else none) else K (Exit.exit 0) (tx74x73_0_1 N0 x xs) (hx74x73_0_1 N0 x xs)) := by kernel_rfl
    rw [h]
    simp only [decide_self, decide_true, Nat.zero_add, Bool.and_true, Bool.true_and, cond_true, law74x73_0, leq74x73_0 N0 x xs K n]
theorem rest74x73_0_0 (N0 : Nat) (x : Sh.Ts [(Sh.int i64).rows]) (xs : Sh.Ts [PaneSh]) (w14 : Int) : rk74x73_0 N0 (Exit.ret) (tx74x73_0_0 N0 x xs w14) (hx74x73_0_0 N0 x xs w14) = some ((w14, ())) := by kernel_rfl
theorem rest74x73_0_1 (N0 : Nat) (x : Sh.Ts [(Sh.int i64).rows]) (xs : Sh.Ts [PaneSh]) : rk74x73_0 N0 (Exit.exit 0) (tx74x73_0_1 N0 x xs) (hx74x73_0_1 N0 x xs) = some ((-1, ())) := by kernel_rfl
noncomputable def law74x73 (N0 : Nat) (x : ((List (List Int)) × Unit)) (xs : (PaneT × Unit)) : Option ((Int × Unit)) := (law74x73_0 N0 x xs (fun w14 => some ((w14, ()))) (some ((-1, ()))) N0 0)
theorem eq74x73 (N0 : Nat) (x : Sh.Ts [(Sh.int i64).rows]) (xs : Sh.Ts [PaneSh]) : codeLawC Tryz.prog env74x73 200 (L74x73 N0) Tryz.f74 c74x73 [.rows (.int .i64)] 73 [PaneSh] [.int .i64] x xs = law74x73 N0 x xs := by
  have h : codeLawC Tryz.prog env74x73 200 (L74x73 N0) Tryz.f74 c74x73 [.rows (.int .i64)] 73 [PaneSh] [.int .i64] x xs = (ln74x73_0 N0 N0 (t74x73_0 N0 x xs 0) (h74x73_0 N0 x xs 0) (rk74x73_0 N0)) := by kernel_rfl
  rw [h]
  unfold law74x73
  simp only [decide_self, decide_true, Nat.zero_add, Bool.and_true, Bool.true_and, cond_true, leq74x73_0, rest74x73_0_0, rest74x73_0_1]
noncomputable def fn74x73 := law74x73 (10 ^ 30)
theorem reads74x73 : ReadsC Tryz.prog 74 [.rows (.int .i64)] 73 [PaneSh] [.int .i64] fn74x73 := (ReadsC.of_code mixed (fn := Tryz.f74) (c := c74x73) Tryz.func74 (by kernel_rfl) (by kernel_rfl) env74x73 200 (L74x73_fit _) (by kernel_rfl)).to (eq74x73 _)
noncomputable def s74x73 : Summ Tryz.prog := reads74x73.summ (by kernel_rfl)
noncomputable def s74 : Summ Tryz.prog := (Summ.choose (lastFn 51) s74x51 s74x73 rfl)
noncomputable def c55x51 : Code := (Tryz.f55.body.getD .skip)
noncomputable def env55x51 : Env Tryz.prog := ⟨[s74, s51], none⟩
noncomputable def law55x51 (x : ((List (List Int)) × Unit)) (xs : (Unit)) : Option ((Bool × Unit)) := ((fn74x51 x ()).bind fun v0 => some ((decide (v0.fst ≥ 0), ())))
theorem eq55x51 (x : Sh.Ts [(Sh.int i64).rows]) (xs : Sh.Ts []) : codeLawC Tryz.prog env55x51 200 [] Tryz.f55 c55x51 [.rows (.int .i64)] 51 [] [.bool] x xs = law55x51 x xs := by
  have h : codeLawC Tryz.prog env55x51 200 [] Tryz.f55 c55x51 [.rows (.int .i64)] 51 [] [.bool] x xs = (bif decide (List.length x.fst = List.length x.fst) && true && true then ((fn74x51 x ()).bind fun v0 => some ((decide (v0.fst ≥ 0), ()))) else none) := by kernel_rfl
  rw [h]
  unfold law55x51
  simp only [decide_self, decide_true, Nat.zero_add, Bool.and_true, Bool.true_and, cond_true]
noncomputable def fn55x51 := law55x51
theorem reads55x51 : ReadsC Tryz.prog 55 [.rows (.int .i64)] 51 [] [.bool] fn55x51 := (ReadsC.of_code mixed (fn := Tryz.f55) (c := c55x51) Tryz.func55 (by kernel_rfl) (by kernel_rfl) env55x51 200 Loops.fit_nil (by kernel_rfl)).to (eq55x51)
noncomputable def s55x51 : Summ Tryz.prog := reads55x51.summ (by kernel_rfl)
noncomputable def c55x73 : Code := (Tryz.f55.body.getD .skip)
noncomputable def env55x73 : Env Tryz.prog := ⟨[s74, s73], none⟩
noncomputable def law55x73 (x : ((List (List Int)) × Unit)) (xs : (PaneT × Unit)) : Option ((Bool × Unit)) := ((fn74x73 x xs).bind fun v0 => some ((decide (v0.fst ≥ 0), ())))
theorem eq55x73 (x : Sh.Ts [(Sh.int i64).rows]) (xs : Sh.Ts [PaneSh]) : codeLawC Tryz.prog env55x73 200 [] Tryz.f55 c55x73 [.rows (.int .i64)] 73 [PaneSh] [.bool] x xs = law55x73 x xs := by
  have h : codeLawC Tryz.prog env55x73 200 [] Tryz.f55 c55x73 [.rows (.int .i64)] 73 [PaneSh] [.bool] x xs = (bif decide (List.length x.fst = List.length x.fst) && true && (decide (List.length xs.fst.fst = List.length xs.fst.fst) && (decide (List.length xs.fst.snd.fst = List.length xs.fst.snd.fst) && (decide (List.length xs.fst.snd.snd.fst = List.length xs.fst.snd.snd.fst) && true)) && true) then ((fn74x73 x xs).bind fun v0 => some ((decide (v0.fst ≥ 0), ()))) else none) := by kernel_rfl
  rw [h]
  unfold law55x73
  simp only [decide_self, decide_true, Nat.zero_add, Bool.and_true, Bool.true_and, cond_true]
noncomputable def fn55x73 := law55x73
theorem reads55x73 : ReadsC Tryz.prog 55 [.rows (.int .i64)] 73 [PaneSh] [.bool] fn55x73 := (ReadsC.of_code mixed (fn := Tryz.f55) (c := c55x73) Tryz.func55 (by kernel_rfl) (by kernel_rfl) env55x73 200 Loops.fit_nil (by kernel_rfl)).to (eq55x73)
noncomputable def s55x73 : Summ Tryz.prog := reads55x73.summ (by kernel_rfl)
noncomputable def s55 : Summ Tryz.prog := (Summ.choose (lastFn 51) s55x51 s55x73 rfl)
noncomputable def c54 : Code := (Tryz.f54.body.getD .skip)
noncomputable def env54 : Env Tryz.prog := ⟨[s72, s73, s55], none⟩
noncomputable def law54 (x : (PaneT × Unit)) : Option ((Bool × Unit)) := ((fn72 ((↑(List.length x.fst.fst) : Int), ())).bind fun v0 => (bif v0.fst then ((fn72 ((↑(List.length x.fst.snd.fst) : Int), ())).bind fun v1 => (bif v1.fst then (bif (↑(List.length x.fst.snd.snd.fst) : Int) == (↑(List.length x.fst.snd.fst) : Int) then ((fn55x73 x.fst.snd.snd x).bind fun v2 => some ((!v2.fst, ()))) else some ((false, ()))) else some ((false, ())))) else some ((false, ()))))
theorem eq54 (x : Sh.Ts [PaneSh]) : codeLaw Tryz.prog env54 200 [] Tryz.f54 c54 [PaneSh] [.bool] x = law54 x := by
  have h : codeLaw Tryz.prog env54 200 [] Tryz.f54 c54 [PaneSh] [.bool] x = ((fn72 ((↑(List.length x.fst.fst) : Int), ())).bind fun v0 => (bif v0.fst then ((fn72 ((↑(List.length x.fst.snd.fst) : Int), ())).bind fun v1 => (bif v1.fst then (bif (↑(List.length x.fst.snd.snd.fst) : Int) == (↑(List.length x.fst.snd.fst) : Int) then (bif decide (List.length x.fst.snd.snd.fst = List.length x.fst.snd.snd.fst) && true && (decide (List.length x.fst.fst = List.length x.fst.fst) && (decide (List.length x.fst.snd.fst = List.length x.fst.snd.fst) && (decide (List.length x.fst.snd.snd.fst = List.length x.fst.snd.snd.fst) && true)) && true) then ((fn55x73 x.fst.snd.snd x).bind fun v2 => some ((!v2.fst, ()))) else none) else some ((false, ()))) else some ((false, ())))) else some ((false, ())))) := by kernel_rfl
  rw [h]
  unfold law54
  simp only [decide_self, decide_true, Nat.zero_add, Bool.and_true, Bool.true_and, cond_true]
noncomputable def fn54 := law54
theorem reads54 : Reads Tryz.prog 54 [PaneSh] [.bool] fn54 := (Reads.of_code mixed (fn := Tryz.f54) (c := c54) Tryz.func54 (by kernel_rfl) (by kernel_rfl) env54 200 Loops.fit_nil (by kernel_rfl)).to (eq54)
noncomputable def s54 : Summ Tryz.prog := reads54.summ
noncomputable def c76 : Code := (Tryz.f76.body.getD .skip)
noncomputable def env76 : Env Tryz.prog := ⟨[], none⟩
noncomputable def law76 (x : (Int × Int × Unit)) : Option ((Int × Unit)) := (bif decide (x.fst > x.snd.fst) then some ((1, ())) else some ((-1, ())))
theorem eq76 (x : Sh.Ts [Sh.int i64, Sh.int i64]) : codeLaw Tryz.prog env76 200 [] Tryz.f76 c76 [.int .i64, .int .i64] [.int .i64] x = law76 x := by kernel_rfl
noncomputable def fn76 := law76
theorem reads76 : Reads Tryz.prog 76 [.int .i64, .int .i64] [.int .i64] fn76 := (Reads.of_code mixed (fn := Tryz.f76) (c := c76) Tryz.func76 (by kernel_rfl) (by kernel_rfl) env76 200 Loops.fit_nil (by kernel_rfl)).to (eq76)
noncomputable def s76 : Summ Tryz.prog := reads76.summ
noncomputable def c75x76 : Code := (Tryz.f75.body.getD .skip)
noncomputable def env75x76 : Env Tryz.prog := ⟨[s76], none⟩
noncomputable def b75x76_0 : Code := ((kid ((subAt c75x76 [0, 1, 0, 1]).getD .skip) 0).getD .skip)
noncomputable def kx75x76_0 : Exit → List Nat | .ret => [4] | _ => []
noncomputable def Li75x76_0 (N0 : Nat) : Loops Tryz.prog := []
noncomputable def ls75x76_0 (N0 : Nat) : LSumm Tryz.prog := loopSumm mixed env75x76 200 (Li75x76_0 N0) b75x76_0 (Loops.fit_nil) [0, 1, 5] kx75x76_0 (N0)
noncomputable def ln75x76_0 {β : Type} (N0 n : Nat) (t : List AV) (h : Heap) (K : Exit → List AV → Heap → Option β) : Option β := loopN Tryz.prog env75x76 (Sh.nes [.sl (.int .i64)] + Sh.nes [] + List.length (α := Sh) []) 200 (Li75x76_0 N0) b75x76_0 [0, 1, 5] kx75x76_0 n t h K
noncomputable def L75x76 (N0 : Nat) : Loops Tryz.prog := [([0, 1, 0, 1], ls75x76_0 N0)]
theorem L75x76_fit (N0 : Nat) : (L75x76 N0).fit c75x76 := Loops.fit_cons (by kernel_rfl) (Loops.fit_nil)
noncomputable def K75x76 : Exit → List AV → Heap → Option (Sh.Ts [.bool]) := fun e t h => outK (P := Tryz.prog) Tryz.f75 [.bool] e t h
noncomputable def rk75x76_0 (N0 : Nat) : Exit → List AV → Heap → Option (Sh.Ts [.bool]) := (blkK 0 (seqK Tryz.prog env75x76 (Sh.nes [.sl (.int .i64)] + Sh.nes [] + List.length (α := Sh) []) 198 (L75x76 N0) [1, 1] ((subAt c75x76 [1, 1]).getD .skip) K75x76))
noncomputable def t75x76_0 (N0 : Nat) (x : Sh.Ts [(Sh.int i64).sl]) (i6 : Int) : List AV := [AV.slc 0 0 (List.length x.fst) Cap.low, AV.fn (Fn.func 76) [] [], AV.any, AV.any, AV.any, vI i6, AV.any, AV.any, AV.any, AV.any, AV.any, AV.any, AV.any, AV.any, AV.any, AV.any, AV.any, AV.any, AV.any, AV.any, AV.any, AV.any, AV.any, AV.any, AV.any]
noncomputable def h75x76_0 (N0 : Nat) (x : Sh.Ts [(Sh.int i64).sl]) (i6 : Int) : Heap := [Ent.live (Blk.mk (Cells.arr (Sh.int i64) x.fst) false none)]
noncomputable def tx75x76_0_0 (N0 : Nat) (x : Sh.Ts [(Sh.int i64).sl]) : List AV := [AV.any, AV.any, AV.any, AV.any, vB false, AV.any, AV.any, AV.any, AV.any, AV.any, AV.any, AV.any, AV.any, AV.any, AV.any, AV.any, AV.any, AV.any, AV.any, AV.any, AV.any, AV.any, AV.any, AV.any, AV.any]
noncomputable def hx75x76_0_0 (N0 : Nat) (x : Sh.Ts [(Sh.int i64).sl]) : Heap := [Ent.live (Blk.mk (Cells.arr (Sh.int i64) x.fst) false none)]
noncomputable def tx75x76_0_1 (N0 : Nat) (x : Sh.Ts [(Sh.int i64).sl]) : List AV := [AV.any, AV.any, AV.any, AV.any, AV.any, AV.any, AV.any, AV.any, AV.any, AV.any, AV.any, AV.any, AV.any, AV.any, AV.any, AV.any, AV.any, AV.any, AV.any, AV.any, AV.any, AV.any, AV.any, AV.any, AV.any]
noncomputable def hx75x76_0_1 (N0 : Nat) (x : Sh.Ts [(Sh.int i64).sl]) : Heap := [Ent.live (Blk.mk (Cells.arr (Sh.int i64) x.fst) false none)]
noncomputable def law75x76_0 {β : Type} (N0 : Nat) (x : ((List Int) × Unit)) (k0 k1 : Option β) : Nat → Int → Option β
  | 0, _ => none
  | n + 1, i6 => (bif decide (i6 > 0) then (bif decide (0 ≤ i6) && decide (i6 < (↑(List.length x.fst) : Int)) then (Option.bind x.fst[i6.toNat]? fun v7 => (bif decide (0 ≤ i64.wrap (i6 - 1)) && decide (i64.wrap (i6 - 1) < (↑(List.length x.fst) : Int)) then ((x.fst[(i64.wrap (i6 - 1)).toNat]?).bind fun v8 => ((fn76 (v7, v8, ())).bind fun v9 => (bif decide (v9.fst < 0) then k0 else law75x76_0 N0 x k0 k1 n (i64.wrap (i6 - 1))))) else none)) else none) else k1)
theorem leq75x76_0 {β : Type} (N0 : Nat) (x : Sh.Ts [(Sh.int i64).sl]) (K : Exit → List AV → Heap → Option β) : ∀ (n : Nat) (i6 : Int), ln75x76_0 N0 n (t75x76_0 N0 x i6) (h75x76_0 N0 x i6) K = law75x76_0 N0 x (K (Exit.ret) (tx75x76_0_0 N0 x) (hx75x76_0_0 N0 x)) (K (Exit.exit 0) (tx75x76_0_1 N0 x) (hx75x76_0_1 N0 x)) n i6
  | 0, _ => rfl
  | n + 1, i6 => by
    have h : ln75x76_0 N0 (n + 1) (t75x76_0 N0 x i6) (h75x76_0 N0 x i6) K = (bif decide (i6 > 0) then (bif decide (0 ≤ i6) && decide (i6 < (↑(List.length x.fst) : Int)) then ((x.fst[0 + i6.toNat]?).bind fun v7 => (bif decide (0 ≤ i64.wrap (i6 - 1)) && decide (i64.wrap (i6 - 1) < (↑(List.length x.fst) : Int)) then ((x.fst[0 + (i64.wrap (i6 - 1)).toNat]?).bind fun v8 => ((fn76 (v7, v8, ())).bind fun v9 => (bif decide (v9.fst < 0) then K (Exit.ret) (tx75x76_0_0 N0 x) (hx75x76_0_0 N0 x) else ln75x76_0 N0 n (t75x76_0 N0 x (i64.wrap (i6 - 1))) (h75x76_0 N0 x (i64.wrap (i6 - 1))) K))) else none)) else none) else K (Exit.exit 0) (tx75x76_0_1 N0 x) (hx75x76_0_1 N0 x)) := by kernel_rfl
    rw [h]
    simp only [decide_self, decide_true, Nat.zero_add, Bool.and_true, Bool.true_and, cond_true, law75x76_0, leq75x76_0 N0 x K n]
theorem rest75x76_0_0 (N0 : Nat) (x : Sh.Ts [(Sh.int i64).sl]) : rk75x76_0 N0 (Exit.ret) (tx75x76_0_0 N0 x) (hx75x76_0_0 N0 x) = some ((false, ())) := by kernel_rfl
theorem rest75x76_0_1 (N0 : Nat) (x : Sh.Ts [(Sh.int i64).sl]) : rk75x76_0 N0 (Exit.exit 0) (tx75x76_0_1 N0 x) (hx75x76_0_1 N0 x) = some ((true, ())) := by kernel_rfl
noncomputable def law75x76 (N0 : Nat) (x : ((List Int) × Unit)) (xs : (Unit)) : Option ((Bool × Unit)) := (law75x76_0 N0 x (some ((false, ()))) (some ((true, ()))) N0 (i64.wrap ((↑(List.length x.fst) : Int) - 1)))
theorem eq75x76 (N0 : Nat) (x : Sh.Ts [(Sh.int i64).sl]) (xs : Sh.Ts []) : codeLawC Tryz.prog env75x76 200 (L75x76 N0) Tryz.f75 c75x76 [.sl (.int .i64)] 76 [] [.bool] x xs = law75x76 N0 x xs := by
  have h : codeLawC Tryz.prog env75x76 200 (L75x76 N0) Tryz.f75 c75x76 [.sl (.int .i64)] 76 [] [.bool] x xs = (ln75x76_0 N0 N0 (t75x76_0 N0 x (i64.wrap ((↑(List.length x.fst) : Int) - 1))) (h75x76_0 N0 x (i64.wrap ((↑(List.length x.fst) : Int) - 1))) (rk75x76_0 N0)) := by kernel_rfl
  rw [h]
  unfold law75x76
  simp only [decide_self, decide_true, Nat.zero_add, Bool.and_true, Bool.true_and, cond_true, leq75x76_0, rest75x76_0_0, rest75x76_0_1]
noncomputable def fn75x76 := law75x76 (10 ^ 30)
theorem reads75x76 : ReadsC Tryz.prog 75 [.sl (.int .i64)] 76 [] [.bool] fn75x76 := (ReadsC.of_code mixed (fn := Tryz.f75) (c := c75x76) Tryz.func75 (by kernel_rfl) (by kernel_rfl) env75x76 200 (L75x76_fit _) (by kernel_rfl)).to (eq75x76 _)
noncomputable def s75x76 : Summ Tryz.prog := reads75x76.summ (by kernel_rfl)
noncomputable def s75 : Summ Tryz.prog := s75x76
noncomputable def c56 : Code := (Tryz.f56.body.getD .skip)
noncomputable def env56 : Env Tryz.prog := ⟨[s75, s76], none⟩
noncomputable def law56 (x : ((List Int) × Unit)) : Option ((Bool × Unit)) := ((fn75x76 x ()).bind fun v0 => some ((v0.fst, ())))
theorem eq56 (x : Sh.Ts [(Sh.int i64).sl]) : codeLaw Tryz.prog env56 200 [] Tryz.f56 c56 [.sl (.int .i64)] [.bool] x = law56 x := by
  have h : codeLaw Tryz.prog env56 200 [] Tryz.f56 c56 [.sl (.int .i64)] [.bool] x = (bif decide (List.length x.fst = List.length x.fst) && true && true then ((fn75x76 x ()).bind fun v0 => some ((v0.fst, ()))) else none) := by kernel_rfl
  rw [h]
  unfold law56
  simp only [decide_self, decide_true, Nat.zero_add, Bool.and_true, Bool.true_and, cond_true]
noncomputable def fn56 := law56
theorem reads56 : Reads Tryz.prog 56 [.sl (.int .i64)] [.bool] fn56 := (Reads.of_code mixed (fn := Tryz.f56) (c := c56) Tryz.func56 (by kernel_rfl) (by kernel_rfl) env56 200 Loops.fit_nil (by kernel_rfl)).to (eq56)
noncomputable def s56 : Summ Tryz.prog := reads56.summ
noncomputable def c26 : Code := (Tryz.f26.body.getD .skip)
noncomputable def env26 : Env Tryz.prog := ⟨[s51, s54, s55, s56], none⟩
noncomputable def law26 (x : (PaneT × Unit)) : Option ((Int × Unit)) := ((fn54 x).bind fun v0 => (bif !v0.fst then some ((42, ())) else ((fn51 (x.fst.fst, ())).bind fun v1 => (bif v1.fst then some ((40, ())) else ((fn51 (x.fst.snd.fst, ())).bind fun v2 => (bif v2.fst then some ((40, ())) else ((fn55x51 x.fst.snd.snd ()).bind fun v3 => (bif v3.fst then some ((40, ())) else ((fn56 (x.fst.fst, ())).bind fun v4 => (bif !v4.fst then some ((41, ())) else ((fn56 (x.fst.snd.fst, ())).bind fun v5 => (bif !v5.fst then some ((41, ())) else some ((0, ()))))))))))))))
theorem eq26 (x : Sh.Ts [PaneSh]) : codeLaw Tryz.prog env26 200 [] Tryz.f26 c26 [PaneSh] [.int .i64] x = law26 x := by
  have h : codeLaw Tryz.prog env26 200 [] Tryz.f26 c26 [PaneSh] [.int .i64] x = (bif decide (List.length x.fst.fst = List.length x.fst.fst) && (decide (List.length x.fst.snd.fst = List.length x.fst.snd.fst) && (decide (List.length x.fst.snd.snd.fst = List.length x.fst.snd.snd.fst) && true)) && true then ((fn54 x).bind fun v0 => (bif !v0.fst then some ((42, ())) else (bif decide (List.length x.fst.fst = List.length x.fst.fst) && true then ((fn51 (x.fst.fst, ())).bind fun v1 => (bif v1.fst then some ((40, ())) else (bif decide (List.length x.fst.snd.fst = List.length x.fst.snd.fst) && true then ((fn51 (x.fst.snd.fst, ())).bind fun v2 => (bif v2.fst then some ((40, ())) else (bif decide (List.length x.fst.snd.snd.fst = List.length x.fst.snd.snd.fst) && true && true then ((fn55x51 x.fst.snd.snd ()).bind fun v3 => (bif v3.fst then some ((40, ())) else (bif decide (List.length x.fst.fst = List.length x.fst.fst) && true then ((fn56 (x.fst.fst, ())).bind fun v4 => (bif !v4.fst then some ((41, ())) else (bif decide (List.length x.fst.snd.fst = List.length x.fst.snd.fst) && true then ((fn56 (x.fst.snd.fst, ())).bind fun v5 => (bif !v5.fst then some ((41, ())) else some ((0, ())))) else none))) else none))) else none))) else none))) else none))) else none) := by kernel_rfl
  rw [h]
  unfold law26
  simp only [decide_self, decide_true, Nat.zero_add, Bool.and_true, Bool.true_and, cond_true]
noncomputable def fn26 := law26
theorem reads26 : Reads Tryz.prog 26 [PaneSh] [.int .i64] fn26 := (Reads.of_code mixed (fn := Tryz.f26) (c := c26) Tryz.func26 (by kernel_rfl) (by kernel_rfl) env26 200 Loops.fit_nil (by kernel_rfl)).to (eq26)
noncomputable def s26 : Summ Tryz.prog := reads26.summ
noncomputable def c27 : Code := (Tryz.f27.body.getD .skip)
noncomputable def env27 : Env Tryz.prog := ⟨[s57], none⟩
noncomputable def b27o0 : Code := ((kid ((subAt c27 [0, 1, 0, 1, 1]).getD .skip) 0).getD .skip)
noncomputable def kx27o0 : Exit → List Nat | .ret => [4] | .exit 0 => [1, 5] | _ => []
noncomputable def Li27o0 (N0 : Nat) : Loops Tryz.prog := []
noncomputable def ls27o0 (N0 : Nat) : LSumm Tryz.prog := loopSumm mixed env27 200 (Li27o0 N0) b27o0 (Loops.fit_nil) [1, 5, 14, 15, 16] kx27o0 (N0)
noncomputable def ln27o0 {β : Type} (N0 n : Nat) (t : List AV) (h : Heap) (K : Exit → List AV → Heap → Option β) : Option β := loopN Tryz.prog env27 (Sh.nes [PaneSh, .int .i64]) 200 (Li27o0 N0) b27o0 [1, 5, 14, 15, 16] kx27o0 n t h K
noncomputable def L27 (N0 : Nat) : Loops Tryz.prog := [([0, 1, 0, 1, 1], ls27o0 N0)]
theorem L27_fit (N0 : Nat) : (L27 N0).fit c27 := Loops.fit_cons (by kernel_rfl) (Loops.fit_nil)
noncomputable def K27 : Exit → List AV → Heap → Option Int := fun e t h => outBx (P := Tryz.prog) Tryz.f27 (Sh.nes [PaneSh, .int .i64]) 58 .i64 e t h
noncomputable def rk27o0 (N0 : Nat) : Exit → List AV → Heap → Option Int := (blkK 0 (seqK Tryz.prog env27 (Sh.nes [PaneSh, .int .i64]) 197 (L27 N0) [1, 1, 1] ((subAt c27 [1, 1, 1]).getD .skip) K27))
noncomputable def t27o0 (N0 : Nat) (x : Sh.Ts [PaneSh, Sh.int i64]) (i11 : Int) (i12 : List (Sh.st [Sh.int i64, Sh.int i64]).T) : List AV := [AV.any, vI x.snd.fst, AV.any, AV.any, AV.any, AV.slc 3 0 (↑(List.length x.fst.snd.fst) : Int).toNat Cap.unk, AV.any, AV.any, AV.any, AV.any, AV.any, AV.any, AV.any, AV.any, AV.slc 1 0 (List.length x.fst.snd.fst) Cap.low, vI (↑(List.length x.fst.snd.fst) : Int), vI i11, AV.any, AV.any, AV.any, AV.any, AV.any, AV.any, AV.any, AV.any, AV.any, AV.any, AV.any, AV.any, AV.any, AV.any]
noncomputable def h27o0 (N0 : Nat) (x : Sh.Ts [PaneSh, Sh.int i64]) (i11 : Int) (i12 : List (Sh.st [Sh.int i64, Sh.int i64]).T) : Heap := [Ent.live (Blk.mk (Cells.arr (Sh.int i64) x.fst.fst) false none), Ent.live (Blk.mk (Cells.arr (Sh.int i64) x.fst.snd.fst) false none), Ent.live (Blk.mk (Cells.arrs (Sh.int i64) x.fst.snd.snd.fst) false none), Ent.live (Blk.mk (Cells.arr (Sh.st [Sh.int i64, Sh.int i64]) i12) true (some 2))]
noncomputable def tx27o0o0 (N0 : Nat) (x : Sh.Ts [PaneSh, Sh.int i64]) (w15 : List (Sh.st [Sh.int i64, Sh.int i64]).T) : List AV := [AV.any, vI x.snd.fst, AV.any, AV.any, AV.any, AV.slc 3 0 (↑(List.length x.fst.snd.fst) : Int).toNat Cap.unk, AV.any, AV.any, AV.any, AV.any, AV.any, AV.any, AV.any, AV.any, AV.any, AV.any, AV.any, AV.any, AV.any, AV.any, AV.any, AV.any, AV.any, AV.any, AV.any, AV.any, AV.any, AV.any, AV.any, AV.any, AV.any]
noncomputable def hx27o0o0 (N0 : Nat) (x : Sh.Ts [PaneSh, Sh.int i64]) (w15 : List (Sh.st [Sh.int i64, Sh.int i64]).T) : Heap := [Ent.live (Blk.mk (Cells.arr (Sh.int i64) x.fst.fst) false none), Ent.live (Blk.mk (Cells.arr (Sh.int i64) x.fst.snd.fst) false none), Ent.live (Blk.mk (Cells.arrs (Sh.int i64) x.fst.snd.snd.fst) false none), Ent.live (Blk.mk (Cells.arr (Sh.st [Sh.int i64, Sh.int i64]) w15) true (some 2))]
noncomputable def law27o0 {β : Type} (N0 : Nat) (x : (PaneT × Int × Unit)) (k0 : List (Int × Int × Unit) → Option β) : Nat → Int → List (Int × Int × Unit) → Option β
  | 0, _, _ => none
  | n + 1, i11, i12 => (bif decide (i11 < (↑(List.length x.fst.snd.fst) : Int)) then (bif decide (0 ≤ i11) && decide (i11 < (↑(List.length x.fst.snd.fst) : Int)) then (Option.bind x.fst.snd.fst[i11.toNat]? fun v13 => (bif decide (0 ≤ i11) && decide (i11 < (↑(↑(List.length x.fst.snd.fst) : Int).toNat : Int)) then (Option.bind i12[i11.toNat]? fun v14 => law27o0 N0 x k0 n (i64.wrap (i11 + 1)) (i12.set i11.toNat (v13, v14.snd.fst, ()))) else none)) else none) else k0 i12)
theorem leq27o0 {β : Type} (N0 : Nat) (x : Sh.Ts [PaneSh, Sh.int i64]) (K : Exit → List AV → Heap → Option β) : ∀ (n : Nat) (i11 : Int) (i12 : List (Sh.st [Sh.int i64, Sh.int i64]).T), ln27o0 N0 n (t27o0 N0 x i11 i12) (h27o0 N0 x i11 i12) K = law27o0 N0 x (fun w15 => K (Exit.exit 0) (tx27o0o0 N0 x w15) (hx27o0o0 N0 x w15)) n i11 i12
  | 0, _, _ => rfl
  | n + 1, i11, i12 => by
    have h : ln27o0 N0 (n + 1) (t27o0 N0 x i11 i12) (h27o0 N0 x i11 i12) K = (bif decide (i11 < (↑(List.length x.fst.snd.fst) : Int)) then (bif decide (0 ≤ i11) && decide (i11 < (↑(List.length x.fst.snd.fst) : Int)) then ((x.fst.snd.fst[0 + i11.toNat]?).bind fun v13 => (bif decide (0 ≤ i11) && decide (i11 < (↑(↑(List.length x.fst.snd.fst) : Int).toNat : Int)) then (Option.bind i12[i11.toNat]? fun v14 => ln27o0 N0 n (t27o0 N0 x (i64.wrap (i11 + 1)) (i12.set i11.toNat (v13, v14.snd.fst, ()))) (h27o0 N0 x (i64.wrap (i11 + 1)) (i12.set i11.toNat (v13, v14.snd.fst, ()))) K) else none)) else none) else K (Exit.exit 0) (tx27o0o0 N0 x i12) (hx27o0o0 N0 x i12)) := by kernel_rfl
    rw [h]
    simp only [decide_self, decide_true, Nat.zero_add, Bool.and_true, Bool.true_and, cond_true, law27o0, leq27o0 N0 x K n]
theorem rest27o0o0 (N0 : Nat) (x : Sh.Ts [PaneSh, Sh.int i64]) (w16 : List (Sh.st [Sh.int i64, Sh.int i64]).T) : rk27o0 N0 (Exit.exit 0) (tx27o0o0 N0 x w16) (hx27o0o0 N0 x w16) = (bif decide ((↑(List.length x.fst.snd.fst) : Int).toNat = w16.length) then ((fn57 (w16, x.snd)).bind fun v17 => some v17.fst) else none) := by
  have h : rk27o0 N0 (Exit.exit 0) (tx27o0o0 N0 x w16) (hx27o0o0 N0 x w16) = (bif decide ((↑(List.length x.fst.snd.fst) : Int).toNat = w16.length) && true then ((fn57 (w16, x.snd)).bind fun v17 => some v17.fst) else none) := by kernel_rfl
  rw [h]
  simp only [decide_self, decide_true, Nat.zero_add, Bool.and_true, Bool.true_and, cond_true, leq27o0]
noncomputable def law27 (N0 : Nat) (x : (PaneT × Int × Unit)) : Option Int := (bif decide (0 ≤ (↑(List.length x.fst.snd.fst) : Int)) && (decide ((↑(List.length x.fst.snd.fst) : Int).toNat * Tryz.prog.types[69].bytes ≤ 140737488355328) && decide ((↑(List.length x.fst.snd.fst) : Int) ≤ 4611686018427387904)) then (law27o0 N0 x (fun w16 => (bif decide ((↑(List.length x.fst.snd.fst) : Int).toNat = w16.length) then ((fn57 (w16, x.snd)).bind fun v17 => some v17.fst) else none)) N0 0 (List.replicate (↑(List.length x.fst.snd.fst) : Int).toNat (0, 0, ()))) else none)
theorem eq27 (N0 : Nat) (x : Sh.Ts [PaneSh, Sh.int i64]) : codeLawK Tryz.prog env27 200 (L27 N0) Tryz.f27 c27 [PaneSh, .int .i64] 58 .i64 x = law27 N0 x := by
  have h : codeLawK Tryz.prog env27 200 (L27 N0) Tryz.f27 c27 [PaneSh, .int .i64] 58 .i64 x = (bif decide (0 ≤ (↑(List.length x.fst.snd.fst) : Int)) && (decide ((↑(List.length x.fst.snd.fst) : Int).toNat * Tryz.prog.types[69].bytes ≤ 140737488355328) && decide ((↑(List.length x.fst.snd.fst) : Int) ≤ 4611686018427387904)) then (ln27o0 N0 N0 (t27o0 N0 x 0 (List.replicate (↑(List.length x.fst.snd.fst) : Int).toNat (0, 0, ()))) (h27o0 N0 x 0 (List.replicate (↑(List.length x.fst.snd.fst) : Int).toNat (0, 0, ()))) (rk27o0 N0)) else none) := by kernel_rfl
  rw [h]
  unfold law27
  simp only [decide_self, decide_true, Nat.zero_add, Bool.and_true, Bool.true_and, cond_true, leq27o0, rest27o0o0]
noncomputable def fn27 := law27 (10 ^ 30)
theorem reads27 : ReadsK Tryz.prog 27 [PaneSh, .int .i64] 58 .i64 fn27 := (ReadsK.of_code mixed (fn := Tryz.f27) (c := c27) Tryz.func27 (by kernel_rfl) (by kernel_rfl) env27 200 (L27_fit _)).to (eq27 _)
noncomputable def s27 : Summ Tryz.prog := reads27.summ
noncomputable def c11 : Code := (Tryz.f11.body.getD .skip)
noncomputable def env11 : Env Tryz.prog := ⟨[s26, s27, s29, s28], none⟩
noncomputable def rc11o0 : Code := ((subAt c11 [0, 1, 0, 1, 1, 1]).getD .skip)
noncomputable def ri11o0 : Code := (Tryz.f58.body.getD .skip)
noncomputable def rs11o0 : LSumm Tryz.prog := rangeSumm mixed env11 (fun _ => True.intro) 200 [] (rgG rc11o0) (rgP rc11o0) (rgA rc11o0) (rgB rc11o0) Loops.fit_nil [] 200 (fun _ => []) 58 Tryz.f58 ri11o0 Tryz.func58 (by kernel_rfl) (by kernel_rfl) (by kernel_rfl) (fun _ => Loops.fit_nil)
noncomputable def L11 : Loops Tryz.prog := [([0, 1, 0, 1, 1, 1], rs11o0)]
theorem L11_fit : (L11).fit c11 := Loops.fit_cons (by kernel_rfl) (Loops.fit_nil)
noncomputable def law11 (m : MT) (x : (PaneT × Int × Int × Unit)) : Option (MT × (Int × Unit)) := ((fn26 (x.fst, ())).bind fun v0 => (bif v0.fst != 0 then some (((m.fst, ()), 0, ())) else ((fn27 (x.fst, x.snd.snd)).bind fun v1 => (bif decide (0 ≤ v1) && decide (v1 < (↑(List.length x.fst.snd.fst) : Int)) then (Option.bind x.fst.snd.fst[v1.toNat]? fun v2 => ((fn29 (x.fst, v1, ())).bind fun v3 => ((fn28 m (v3, x.snd.fst, ())).bind fun v4 => (bif decide (0 ≤ i64.wrap (v1 + 1)) && decide (i64.wrap (v1 + 1) < (↑(List.length x.fst.snd.fst) : Int)) then ((x.fst.snd.fst[(i64.wrap (v1 + 1)).toNat]?).bind fun v5 => ((fn29 (x.fst, i64.wrap (v1 + 1), ())).bind fun v6 => ((fn28 v4.fst (v6, x.snd.fst, ())).bind fun v7 => ((fn28 v7.fst ([(v2, v4.snd)] ++ [(v5, v7.snd)], x.snd.snd)).bind fun v8 => some (((v8.fst.fst, ()), v8.snd.fst, ())))))) else none)))) else none))))
theorem eq11 (m : MSh.T) (x : Sh.Ts [PaneSh, Sh.int i64, Sh.int i64]) : codeLawM Tryz.prog env11 200 (L11) Tryz.f11 c11 (MSh) [PaneSh, .int .i64, .int .i64] [.int .i64] m x = law11 m x := by
  have h : codeLawM Tryz.prog env11 200 (L11) Tryz.f11 c11 (MSh) [PaneSh, .int .i64, .int .i64] [.int .i64] m x = (bif decide (List.length x.fst.fst = List.length x.fst.fst) && (decide (List.length x.fst.snd.fst = List.length x.fst.snd.fst) && (decide (List.length x.fst.snd.snd.fst = List.length x.fst.snd.snd.fst) && true)) && true then ((fn26 (x.fst, ())).bind fun v0 => (bif v0.fst != 0 then some (((m.fst, ()), 0, ())) else (bif decide (List.length x.fst.fst = List.length x.fst.fst) && (decide (List.length x.fst.snd.fst = List.length x.fst.snd.fst) && (decide (List.length x.fst.snd.snd.fst = List.length x.fst.snd.snd.fst) && true)) && true then ((fn27 (x.fst, x.snd.snd)).bind fun v1 => (bif decide (0 ≤ v1) && decide (v1 < (↑(List.length x.fst.snd.fst) : Int)) then ((x.fst.snd.fst[0 + v1.toNat]?).bind fun v2 => (bif decide (List.length x.fst.fst = List.length x.fst.fst) && (decide (List.length x.fst.snd.fst = List.length x.fst.snd.fst) && (decide (List.length x.fst.snd.snd.fst = List.length x.fst.snd.snd.fst) && true)) && true then ((fn29 (x.fst, v1, ())).bind fun v3 => (bif decide (v3.length = v3.length) && true then ((fn28 m (v3, x.snd.fst, ())).bind fun v4 => (bif decide (0 ≤ i64.wrap (v1 + 1)) && decide (i64.wrap (v1 + 1) < (↑(List.length x.fst.snd.fst) : Int)) then ((x.fst.snd.fst[0 + (i64.wrap (v1 + 1)).toNat]?).bind fun v5 => (bif decide (List.length x.fst.fst = List.length x.fst.fst) && (decide (List.length x.fst.snd.fst = List.length x.fst.snd.fst) && (decide (List.length x.fst.snd.snd.fst = List.length x.fst.snd.snd.fst) && true)) && true then ((fn29 (x.fst, i64.wrap (v1 + 1), ())).bind fun v6 => (bif decide (v6.length = v6.length) && true then ((fn28 v4.fst (v6, x.snd.fst, ())).bind fun v7 => ((fn28 v7.fst ([(v2, v4.snd)] ++ [(v5, v7.snd)], x.snd.snd)).bind fun v8 => some (((v8.fst.fst, ()), v8.snd.fst, ())))) else none)) else none)) else none)) else none)) else none)) else none)) else none))) else none) := by kernel_rfl
  rw [h]
  unfold law11
  simp only [decide_self, decide_true, Nat.zero_add, Bool.and_true, Bool.true_and, cond_true]
noncomputable def fn11 := law11
theorem acts11 : Acts Tryz.prog 11 (MSh) [PaneSh, .int .i64, .int .i64] [.int .i64] fn11 := (Acts.of_code mixed (fn := Tryz.f11) (c := c11) Tryz.func11 (by kernel_rfl) (by kernel_rfl) env11 200 (L11_fit) (by kernel_rfl) (by kernel_rfl)).to (eq11)
noncomputable def s11 : Summ Tryz.prog := acts11.summ (by kernel_rfl)
noncomputable def c83 : Code := (Tryz.f83.body.getD .skip)
noncomputable def env83 : Env Tryz.prog := ⟨[], none⟩
noncomputable def law83 (x : (Int × Unit)) : Option ((Bool × Unit)) := (bif decide (x.fst > 4503599627370496) then some ((true, ())) else some ((decide (x.fst < -4503599627370496), ())))
theorem eq83 (x : Sh.Ts [Sh.int i64]) : codeLaw Tryz.prog env83 200 [] Tryz.f83 c83 [.int .i64] [.bool] x = law83 x := by kernel_rfl
noncomputable def fn83 := law83
theorem reads83 : Reads Tryz.prog 83 [.int .i64] [.bool] fn83 := (Reads.of_code mixed (fn := Tryz.f83) (c := c83) Tryz.func83 (by kernel_rfl) (by kernel_rfl) env83 200 Loops.fit_nil (by kernel_rfl)).to (eq83)
noncomputable def s83 : Summ Tryz.prog := reads83.summ
noncomputable def c60 : Code := (Tryz.f60.body.getD .skip)
noncomputable def env60 : Env Tryz.prog := ⟨[s83], none⟩
noncomputable def b60o0 : Code := ((kid ((subAt c60 [0, 1, 0, 1]).getD .skip) 0).getD .skip)
noncomputable def kx60o0 : Exit → List Nat | .ret => [2] | _ => []
noncomputable def Li60o0 (N0 : Nat) : Loops Tryz.prog := []
noncomputable def ls60o0 (N0 : Nat) : LSumm Tryz.prog := loopSumm mixed env60 200 (Li60o0 N0) b60o0 (Loops.fit_nil) [0, 3] kx60o0 (N0)
noncomputable def ln60o0 {β : Type} (N0 n : Nat) (t : List AV) (h : Heap) (K : Exit → List AV → Heap → Option β) : Option β := loopN Tryz.prog env60 (Sh.nes [.sl (.int .i64)]) 200 (Li60o0 N0) b60o0 [0, 3] kx60o0 n t h K
noncomputable def L60 (N0 : Nat) : Loops Tryz.prog := [([0, 1, 0, 1], ls60o0 N0)]
theorem L60_fit (N0 : Nat) : (L60 N0).fit c60 := Loops.fit_cons (by kernel_rfl) (Loops.fit_nil)
noncomputable def K60 : Exit → List AV → Heap → Option (Sh.Ts [.bool]) := fun e t h => outK (P := Tryz.prog) Tryz.f60 [.bool] e t h
noncomputable def rk60o0 (N0 : Nat) : Exit → List AV → Heap → Option (Sh.Ts [.bool]) := (blkK 0 (seqK Tryz.prog env60 (Sh.nes [.sl (.int .i64)]) 198 (L60 N0) [1, 1] ((subAt c60 [1, 1]).getD .skip) K60))
noncomputable def t60o0 (N0 : Nat) (x : Sh.Ts [(Sh.int i64).sl]) (i5 : Int) : List AV := [AV.slc 0 0 (List.length x.fst) Cap.low, AV.any, AV.any, vI i5, AV.any, AV.any, AV.any, AV.any, AV.any, AV.any, AV.any, AV.any, AV.any, AV.any, AV.any]
noncomputable def h60o0 (N0 : Nat) (x : Sh.Ts [(Sh.int i64).sl]) (i5 : Int) : Heap := [Ent.live (Blk.mk (Cells.arr (Sh.int i64) x.fst) false none)]
noncomputable def tx60o0o0 (N0 : Nat) (x : Sh.Ts [(Sh.int i64).sl]) : List AV := [AV.any, AV.any, vB true, AV.any, AV.any, AV.any, AV.any, AV.any, AV.any, AV.any, AV.any, AV.any, AV.any, AV.any, AV.any]
noncomputable def hx60o0o0 (N0 : Nat) (x : Sh.Ts [(Sh.int i64).sl]) : Heap := [Ent.live (Blk.mk (Cells.arr (Sh.int i64) x.fst) false none)]
noncomputable def tx60o0o1 (N0 : Nat) (x : Sh.Ts [(Sh.int i64).sl]) : List AV := [AV.any, AV.any, AV.any, AV.any, AV.any, AV.any, AV.any, AV.any, AV.any, AV.any, AV.any, AV.any, AV.any, AV.any, AV.any]
noncomputable def hx60o0o1 (N0 : Nat) (x : Sh.Ts [(Sh.int i64).sl]) : Heap := [Ent.live (Blk.mk (Cells.arr (Sh.int i64) x.fst) false none)]
noncomputable def law60o0 {β : Type} (N0 : Nat) (x : ((List Int) × Unit)) (k0 k1 : Option β) : Nat → Int → Option β
  | 0, _ => none
  | n + 1, i5 => (bif decide (i5 < (↑(List.length x.fst) : Int)) then (bif decide (0 ≤ i5) && decide (i5 < (↑(List.length x.fst) : Int)) then (Option.bind x.fst[i5.toNat]? fun v6 => ((fn83 (v6, ())).bind fun v7 => (bif v7.fst then k0 else law60o0 N0 x k0 k1 n (i64.wrap (i5 + 1))))) else none) else k1)
theorem leq60o0 {β : Type} (N0 : Nat) (x : Sh.Ts [(Sh.int i64).sl]) (K : Exit → List AV → Heap → Option β) : ∀ (n : Nat) (i5 : Int), ln60o0 N0 n (t60o0 N0 x i5) (h60o0 N0 x i5) K = law60o0 N0 x (K (Exit.ret) (tx60o0o0 N0 x) (hx60o0o0 N0 x)) (K (Exit.exit 0) (tx60o0o1 N0 x) (hx60o0o1 N0 x)) n i5
  | 0, _ => rfl
  | n + 1, i5 => by
    have h : ln60o0 N0 (n + 1) (t60o0 N0 x i5) (h60o0 N0 x i5) K = (bif decide (i5 < (↑(List.length x.fst) : Int)) then (bif decide (0 ≤ i5) && decide (i5 < (↑(List.length x.fst) : Int)) then ((x.fst[0 + i5.toNat]?).bind fun v6 => ((fn83 (v6, ())).bind fun v7 => (bif v7.fst then K (Exit.ret) (tx60o0o0 N0 x) (hx60o0o0 N0 x) else ln60o0 N0 n (t60o0 N0 x (i64.wrap (i5 + 1))) (h60o0 N0 x (i64.wrap (i5 + 1))) K))) else none) else K (Exit.exit 0) (tx60o0o1 N0 x) (hx60o0o1 N0 x)) := by kernel_rfl
    rw [h]
    simp only [decide_self, decide_true, Nat.zero_add, Bool.and_true, Bool.true_and, cond_true, law60o0, leq60o0 N0 x K n]
theorem rest60o0o0 (N0 : Nat) (x : Sh.Ts [(Sh.int i64).sl]) : rk60o0 N0 (Exit.ret) (tx60o0o0 N0 x) (hx60o0o0 N0 x) = some ((true, ())) := by kernel_rfl
theorem rest60o0o1 (N0 : Nat) (x : Sh.Ts [(Sh.int i64).sl]) : rk60o0 N0 (Exit.exit 0) (tx60o0o1 N0 x) (hx60o0o1 N0 x) = some ((false, ())) := by kernel_rfl
noncomputable def law60 (N0 : Nat) (x : ((List Int) × Unit)) : Option ((Bool × Unit)) := (law60o0 N0 x (some ((true, ()))) (some ((false, ()))) N0 0)
theorem eq60 (N0 : Nat) (x : Sh.Ts [(Sh.int i64).sl]) : codeLaw Tryz.prog env60 200 (L60 N0) Tryz.f60 c60 [.sl (.int .i64)] [.bool] x = law60 N0 x := by
  have h : codeLaw Tryz.prog env60 200 (L60 N0) Tryz.f60 c60 [.sl (.int .i64)] [.bool] x = (ln60o0 N0 N0 (t60o0 N0 x 0) (h60o0 N0 x 0) (rk60o0 N0)) := by kernel_rfl
  rw [h]
  unfold law60
  simp only [decide_self, decide_true, Nat.zero_add, Bool.and_true, Bool.true_and, cond_true, leq60o0, rest60o0o0, rest60o0o1]
noncomputable def fn60 := law60 (10 ^ 30)
theorem reads60 : Reads Tryz.prog 60 [.sl (.int .i64)] [.bool] fn60 := (Reads.of_code mixed (fn := Tryz.f60) (c := c60) Tryz.func60 (by kernel_rfl) (by kernel_rfl) env60 200 (L60_fit _) (by kernel_rfl)).to (eq60 _)
noncomputable def s60 : Summ Tryz.prog := reads60.summ
noncomputable def c61 : Code := (Tryz.f61.body.getD .skip)
noncomputable def env61 : Env Tryz.prog := ⟨[], none⟩
noncomputable def b61o0 : Code := ((kid ((subAt c61 [0, 1, 0, 1]).getD .skip) 0).getD .skip)
noncomputable def kx61o0 : Exit → List Nat | .ret => [2] | _ => []
noncomputable def Li61o0 (N0 : Nat) : Loops Tryz.prog := []
noncomputable def ls61o0 (N0 : Nat) : LSumm Tryz.prog := loopSumm mixed env61 200 (Li61o0 N0) b61o0 (Loops.fit_nil) [0, 3] kx61o0 (N0)
noncomputable def ln61o0 {β : Type} (N0 n : Nat) (t : List AV) (h : Heap) (K : Exit → List AV → Heap → Option β) : Option β := loopN Tryz.prog env61 (Sh.nes [.sl (.int .i64)]) 200 (Li61o0 N0) b61o0 [0, 3] kx61o0 n t h K
noncomputable def L61 (N0 : Nat) : Loops Tryz.prog := [([0, 1, 0, 1], ls61o0 N0)]
theorem L61_fit (N0 : Nat) : (L61 N0).fit c61 := Loops.fit_cons (by kernel_rfl) (Loops.fit_nil)
noncomputable def K61 : Exit → List AV → Heap → Option (Sh.Ts [.bool]) := fun e t h => outK (P := Tryz.prog) Tryz.f61 [.bool] e t h
noncomputable def rk61o0 (N0 : Nat) : Exit → List AV → Heap → Option (Sh.Ts [.bool]) := (blkK 0 (seqK Tryz.prog env61 (Sh.nes [.sl (.int .i64)]) 198 (L61 N0) [1, 1] ((subAt c61 [1, 1]).getD .skip) K61))
noncomputable def t61o0 (N0 : Nat) (x : Sh.Ts [(Sh.int i64).sl]) (i5 : Int) : List AV := [AV.slc 0 0 (List.length x.fst) Cap.low, AV.any, AV.any, vI i5, AV.any, AV.any, AV.any, AV.any, AV.any, AV.any, AV.any, AV.any, AV.any, AV.any, AV.any, AV.any, AV.any, AV.any, AV.any, AV.any]
noncomputable def h61o0 (N0 : Nat) (x : Sh.Ts [(Sh.int i64).sl]) (i5 : Int) : Heap := [Ent.live (Blk.mk (Cells.arr (Sh.int i64) x.fst) false none)]
noncomputable def tx61o0o0 (N0 : Nat) (x : Sh.Ts [(Sh.int i64).sl]) : List AV := [AV.any, AV.any, vB true, AV.any, AV.any, AV.any, AV.any, AV.any, AV.any, AV.any, AV.any, AV.any, AV.any, AV.any, AV.any, AV.any, AV.any, AV.any, AV.any, AV.any]
noncomputable def hx61o0o0 (N0 : Nat) (x : Sh.Ts [(Sh.int i64).sl]) : Heap := [Ent.live (Blk.mk (Cells.arr (Sh.int i64) x.fst) false none)]
noncomputable def tx61o0o1 (N0 : Nat) (x : Sh.Ts [(Sh.int i64).sl]) : List AV := [AV.any, AV.any, AV.any, AV.any, AV.any, AV.any, AV.any, AV.any, AV.any, AV.any, AV.any, AV.any, AV.any, AV.any, AV.any, AV.any, AV.any, AV.any, AV.any, AV.any]
noncomputable def hx61o0o1 (N0 : Nat) (x : Sh.Ts [(Sh.int i64).sl]) : Heap := [Ent.live (Blk.mk (Cells.arr (Sh.int i64) x.fst) false none)]
noncomputable def law61o0 {β : Type} (N0 : Nat) (x : ((List Int) × Unit)) (k0 k1 : Option β) : Nat → Int → Option β
  | 0, _ => none
  | n + 1, i5 => (bif decide (i5 < (↑(List.length x.fst) : Int)) then (bif decide (0 ≤ i5) && decide (i5 < (↑(List.length x.fst) : Int)) then (Option.bind x.fst[i5.toNat]? fun v6 => (bif decide (0 ≤ i64.wrap (i5 - 1)) && decide (i64.wrap (i5 - 1) < (↑(List.length x.fst) : Int)) then ((x.fst[(i64.wrap (i5 - 1)).toNat]?).bind fun v7 => (bif decide (v6 ≤ v7) then k0 else law61o0 N0 x k0 k1 n (i64.wrap (i5 + 1)))) else none)) else none) else k1)
theorem leq61o0 {β : Type} (N0 : Nat) (x : Sh.Ts [(Sh.int i64).sl]) (K : Exit → List AV → Heap → Option β) : ∀ (n : Nat) (i5 : Int), ln61o0 N0 n (t61o0 N0 x i5) (h61o0 N0 x i5) K = law61o0 N0 x (K (Exit.ret) (tx61o0o0 N0 x) (hx61o0o0 N0 x)) (K (Exit.exit 0) (tx61o0o1 N0 x) (hx61o0o1 N0 x)) n i5
  | 0, _ => rfl
  | n + 1, i5 => by
    have h : ln61o0 N0 (n + 1) (t61o0 N0 x i5) (h61o0 N0 x i5) K = (bif decide (i5 < (↑(List.length x.fst) : Int)) then (bif decide (0 ≤ i5) && decide (i5 < (↑(List.length x.fst) : Int)) then ((x.fst[0 + i5.toNat]?).bind fun v6 => (bif decide (0 ≤ i64.wrap (i5 - 1)) && decide (i64.wrap (i5 - 1) < (↑(List.length x.fst) : Int)) then ((x.fst[0 + (i64.wrap (i5 - 1)).toNat]?).bind fun v7 => (bif decide (v6 ≤ v7) then K (Exit.ret) (tx61o0o0 N0 x) (hx61o0o0 N0 x) else ln61o0 N0 n (t61o0 N0 x (i64.wrap (i5 + 1))) (h61o0 N0 x (i64.wrap (i5 + 1))) K)) else none)) else none) else K (Exit.exit 0) (tx61o0o1 N0 x) (hx61o0o1 N0 x)) := by kernel_rfl
    rw [h]
    simp only [decide_self, decide_true, Nat.zero_add, Bool.and_true, Bool.true_and, cond_true, law61o0, leq61o0 N0 x K n]
theorem rest61o0o0 (N0 : Nat) (x : Sh.Ts [(Sh.int i64).sl]) : rk61o0 N0 (Exit.ret) (tx61o0o0 N0 x) (hx61o0o0 N0 x) = some ((true, ())) := by kernel_rfl
theorem rest61o0o1 (N0 : Nat) (x : Sh.Ts [(Sh.int i64).sl]) : rk61o0 N0 (Exit.exit 0) (tx61o0o1 N0 x) (hx61o0o1 N0 x) = some ((false, ())) := by kernel_rfl
noncomputable def law61 (N0 : Nat) (x : ((List Int) × Unit)) : Option ((Bool × Unit)) := (law61o0 N0 x (some ((true, ()))) (some ((false, ()))) N0 1)
theorem eq61 (N0 : Nat) (x : Sh.Ts [(Sh.int i64).sl]) : codeLaw Tryz.prog env61 200 (L61 N0) Tryz.f61 c61 [.sl (.int .i64)] [.bool] x = law61 N0 x := by
  have h : codeLaw Tryz.prog env61 200 (L61 N0) Tryz.f61 c61 [.sl (.int .i64)] [.bool] x = (ln61o0 N0 N0 (t61o0 N0 x 1) (h61o0 N0 x 1) (rk61o0 N0)) := by kernel_rfl
  rw [h]
  unfold law61
  simp only [decide_self, decide_true, Nat.zero_add, Bool.and_true, Bool.true_and, cond_true, leq61o0, rest61o0o0, rest61o0o1]
noncomputable def fn61 := law61 (10 ^ 30)
theorem reads61 : Reads Tryz.prog 61 [.sl (.int .i64)] [.bool] fn61 := (Reads.of_code mixed (fn := Tryz.f61) (c := c61) Tryz.func61 (by kernel_rfl) (by kernel_rfl) env61 200 (L61_fit _) (by kernel_rfl)).to (eq61 _)
noncomputable def s61 : Summ Tryz.prog := reads61.summ
noncomputable def c30 : Code := (Tryz.f30.body.getD .skip)
noncomputable def env30 : Env Tryz.prog := ⟨[s60, s61], none⟩
noncomputable def b30o1 : Code := ((kid ((subAt c30 [0, 1, 0, 1, 1, 1, 1]).getD .skip) 0).getD .skip)
noncomputable def kx30o1 : Exit → List Nat | .ret => [2] | .exit 2 => [1] | _ => []
noncomputable def b30o0 : Code := ((kid ((subAt c30 [0, 1, 0, 1, 1]).getD .skip) 0).getD .skip)
noncomputable def kx30o0 : Exit → List Nat | .ret => [2] | .exit 0 => [1] | _ => []
noncomputable def Li30o1 (N0 N1 : Nat) : Loops Tryz.prog := []
noncomputable def ls30o1 (N0 N1 : Nat) : LSumm Tryz.prog := loopSumm mixed env30 200 (Li30o1 N0 N1) b30o1 (Loops.fit_nil) [1, 4] kx30o1 (N1)
noncomputable def ln30o1 {β : Type} (N0 N1 : Nat) (n : Nat) (t : List AV) (h : Heap) (K : Exit → List AV → Heap → Option β) : Option β := loopN Tryz.prog env30 (Sh.nes [PaneSh]) 200 (Li30o1 N0 N1) b30o1 [1, 4] kx30o1 n t h K
noncomputable def Li30o0 (N0 N1 : Nat) : Loops Tryz.prog := []
noncomputable def ls30o0 (N0 N1 : Nat) : LSumm Tryz.prog := loopSumm mixed env30 200 (Li30o0 N0 N1) b30o0 (Loops.fit_nil) [1, 3] kx30o0 (N0)
noncomputable def ln30o0 {β : Type} (N0 N1 : Nat) (n : Nat) (t : List AV) (h : Heap) (K : Exit → List AV → Heap → Option β) : Option β := loopN Tryz.prog env30 (Sh.nes [PaneSh]) 200 (Li30o0 N0 N1) b30o0 [1, 3] kx30o0 n t h K
noncomputable def L30 (N0 N1 : Nat) : Loops Tryz.prog := [([0, 1, 0, 1, 1], ls30o0 N0 N1), ([0, 1, 0, 1, 1, 1, 1], ls30o1 N0 N1)]
theorem L30_fit (N0 N1 : Nat) : (L30 N0 N1).fit c30 := Loops.fit_cons (by kernel_rfl) (Loops.fit_cons (by kernel_rfl) (Loops.fit_nil))
noncomputable def K30 : Exit → List AV → Heap → Option (Sh.Ts [.int .i64]) := fun e t h => outK (P := Tryz.prog) Tryz.f30 [.int .i64] e t h
noncomputable def rk30o0 (N0 N1 : Nat) : Exit → List AV → Heap → Option (Sh.Ts [.int .i64]) := (blkK 0 (seqK Tryz.prog env30 (Sh.nes [PaneSh]) 197 (L30 N0 N1) [1, 1, 1] ((subAt c30 [1, 1, 1]).getD .skip) K30))
noncomputable def rk30o1 (N0 N1 : Nat) : Exit → List AV → Heap → Option (Sh.Ts [.int .i64]) := (blkK 2 (seqK Tryz.prog env30 (Sh.nes [PaneSh]) 195 (L30 N0 N1) [1, 1, 1, 1, 1] ((subAt c30 [1, 1, 1, 1, 1]).getD .skip) K30))
noncomputable def t30o0 (N0 N1 : Nat) (x : Sh.Ts [PaneSh]) (i8 : Int) : List AV := [AV.any, AV.ptr 3 0, AV.any, vI i8, AV.any, AV.any, AV.any, AV.any, AV.any, AV.any, AV.any, AV.any, AV.any, AV.any, AV.any, AV.any, AV.any, AV.any, AV.any, AV.any, AV.any, AV.any, AV.any, AV.any, AV.any, AV.any, AV.any, AV.any, AV.any, AV.any, AV.any, AV.any, AV.any, AV.any, AV.any, AV.any, AV.any, AV.any, AV.any, AV.any, AV.any, AV.any, AV.any, AV.any, AV.any, AV.any, AV.any, AV.any, AV.any, AV.any, AV.any, AV.any, AV.any, AV.any, AV.any, AV.any, AV.any, AV.any, AV.any, AV.any, AV.any, AV.any, AV.any, AV.any, AV.any, AV.any, AV.any, AV.any, AV.any, AV.any, AV.any, AV.any, AV.any, AV.any, AV.any, AV.any, AV.any, AV.any, AV.any, AV.any, AV.any, AV.any]
noncomputable def h30o0 (N0 N1 : Nat) (x : Sh.Ts [PaneSh]) (i8 : Int) : Heap := [Ent.live (Blk.mk (Cells.arr (Sh.int i64) x.fst.fst) false none), Ent.live (Blk.mk (Cells.arr (Sh.int i64) x.fst.snd.fst) false none), Ent.live (Blk.mk (Cells.arrs (Sh.int i64) x.fst.snd.snd.fst) false none), eL [AV.slc 0 0 (List.length x.fst.fst) Cap.low, AV.slc 1 0 (List.length x.fst.snd.fst) Cap.low, AV.slc 2 0 (List.length x.fst.snd.snd.fst) Cap.low]]
noncomputable def tx30o0o0 (N0 N1 : Nat) (x : Sh.Ts [PaneSh]) : List AV := [AV.any, AV.any, vI 42, AV.any, AV.any, AV.any, AV.any, AV.any, AV.any, AV.any, AV.any, AV.any, AV.any, AV.any, AV.any, AV.any, AV.any, AV.any, AV.any, AV.any, AV.any, AV.any, AV.any, AV.any, AV.any, AV.any, AV.any, AV.any, AV.any, AV.any, AV.any, AV.any, AV.any, AV.any, AV.any, AV.any, AV.any, AV.any, AV.any, AV.any, AV.any, AV.any, AV.any, AV.any, AV.any, AV.any, AV.any, AV.any, AV.any, AV.any, AV.any, AV.any, AV.any, AV.any, AV.any, AV.any, AV.any, AV.any, AV.any, AV.any, AV.any, AV.any, AV.any, AV.any, AV.any, AV.any, AV.any, AV.any, AV.any, AV.any, AV.any, AV.any, AV.any, AV.any, AV.any, AV.any, AV.any, AV.any, AV.any, AV.any, AV.any, AV.any]
noncomputable def hx30o0o0 (N0 N1 : Nat) (x : Sh.Ts [PaneSh]) : Heap := [Ent.live (Blk.mk (Cells.arr (Sh.int i64) x.fst.fst) false none), Ent.live (Blk.mk (Cells.arr (Sh.int i64) x.fst.snd.fst) false none), Ent.live (Blk.mk (Cells.arrs (Sh.int i64) x.fst.snd.snd.fst) false none)]
noncomputable def tx30o0o1 (N0 N1 : Nat) (x : Sh.Ts [PaneSh]) : List AV := [AV.any, AV.ptr 3 0, AV.any, AV.any, AV.any, AV.any, AV.any, AV.any, AV.any, AV.any, AV.any, AV.any, AV.any, AV.any, AV.any, AV.any, AV.any, AV.any, AV.any, AV.any, AV.any, AV.any, AV.any, AV.any, AV.any, AV.any, AV.any, AV.any, AV.any, AV.any, AV.any, AV.any, AV.any, AV.any, AV.any, AV.any, AV.any, AV.any, AV.any, AV.any, AV.any, AV.any, AV.any, AV.any, AV.any, AV.any, AV.any, AV.any, AV.any, AV.any, AV.any, AV.any, AV.any, AV.any, AV.any, AV.any, AV.any, AV.any, AV.any, AV.any, AV.any, AV.any, AV.any, AV.any, AV.any, AV.any, AV.any, AV.any, AV.any, AV.any, AV.any, AV.any, AV.any, AV.any, AV.any, AV.any, AV.any, AV.any, AV.any, AV.any, AV.any, AV.any]
noncomputable def hx30o0o1 (N0 N1 : Nat) (x : Sh.Ts [PaneSh]) : Heap := [Ent.live (Blk.mk (Cells.arr (Sh.int i64) x.fst.fst) false none), Ent.live (Blk.mk (Cells.arr (Sh.int i64) x.fst.snd.fst) false none), Ent.live (Blk.mk (Cells.arrs (Sh.int i64) x.fst.snd.snd.fst) false none), eL [AV.slc 0 0 (List.length x.fst.fst) Cap.low, AV.slc 1 0 (List.length x.fst.snd.fst) Cap.low, AV.slc 2 0 (List.length x.fst.snd.snd.fst) Cap.low]]
noncomputable def law30o0 {β : Type} (N0 N1 : Nat) (x : (PaneT × Unit)) (k0 k1 : Option β) : Nat → Int → Option β
  | 0, _ => none
  | n + 1, i8 => (bif decide (i8 < (↑(List.length x.fst.snd.snd.fst) : Int)) then (bif decide (0 ≤ i8) && decide (i8 < (↑(List.length x.fst.snd.snd.fst) : Int)) then (Option.bind x.fst.snd.snd.fst[i8.toNat]? fun v9 => (bif (↑v9.length : Int) != (↑(List.length x.fst.fst) : Int) then k0 else law30o0 N0 N1 x k0 k1 n (i64.wrap (i8 + 1)))) else none) else k1)
theorem leq30o0 {β : Type} (N0 N1 : Nat) (x : Sh.Ts [PaneSh]) (K : Exit → List AV → Heap → Option β) : ∀ (n : Nat) (i8 : Int), ln30o0 N0 N1 n (t30o0 N0 N1 x i8) (h30o0 N0 N1 x i8) K = law30o0 N0 N1 x (K (Exit.ret) (tx30o0o0 N0 N1 x) (hx30o0o0 N0 N1 x)) (K (Exit.exit 0) (tx30o0o1 N0 N1 x) (hx30o0o1 N0 N1 x)) n i8
  | 0, _ => rfl
  | n + 1, i8 => by
    have h : ln30o0 N0 N1 (n + 1) (t30o0 N0 N1 x i8) (h30o0 N0 N1 x i8) K = (bif decide (i8 < (↑(List.length x.fst.snd.snd.fst) : Int)) then (bif decide (0 ≤ i8) && decide (i8 < (↑(List.length x.fst.snd.snd.fst) : Int)) then ((x.fst.snd.snd.fst[0 + i8.toNat]?).bind fun v9 => (bif (↑v9.length : Int) != (↑(List.length x.fst.fst) : Int) then K (Exit.ret) (tx30o0o0 N0 N1 x) (hx30o0o0 N0 N1 x) else ln30o0 N0 N1 n (t30o0 N0 N1 x (i64.wrap (i8 + 1))) (h30o0 N0 N1 x (i64.wrap (i8 + 1))) K)) else none) else K (Exit.exit 0) (tx30o0o1 N0 N1 x) (hx30o0o1 N0 N1 x)) := by kernel_rfl
    rw [h]
    simp only [decide_self, decide_true, Nat.zero_add, Bool.and_true, Bool.true_and, cond_true, law30o0, leq30o0 N0 N1 x K n]
noncomputable def t30o1o1 (N0 N1 : Nat) (x : Sh.Ts [PaneSh]) (i21 : Int) : List AV := [AV.any, AV.ptr 3 0, AV.any, AV.any, vI i21, AV.any, AV.any, AV.any, AV.any, AV.any, AV.any, AV.any, AV.any, AV.any, AV.any, AV.any, AV.any, AV.any, AV.any, AV.any, AV.any, AV.any, AV.any, AV.any, AV.any, AV.any, AV.any, AV.any, AV.any, AV.any, AV.any, AV.any, AV.any, AV.any, AV.any, AV.any, AV.any, AV.any, AV.any, AV.any, AV.any, AV.any, AV.any, AV.any, AV.any, AV.any, AV.any, AV.any, AV.any, AV.any, AV.any, AV.any, AV.any, AV.any, AV.any, AV.any, AV.any, AV.any, AV.any, AV.any, AV.any, AV.any, AV.any, AV.any, AV.any, AV.any, AV.any, AV.any, AV.any, AV.any, AV.any, AV.any, AV.any, AV.any, AV.any, AV.any, AV.any, AV.any, AV.any, AV.any, AV.any, AV.any]
noncomputable def h30o1o1 (N0 N1 : Nat) (x : Sh.Ts [PaneSh]) (i21 : Int) : Heap := [Ent.live (Blk.mk (Cells.arr (Sh.int i64) x.fst.fst) false none), Ent.live (Blk.mk (Cells.arr (Sh.int i64) x.fst.snd.fst) false none), Ent.live (Blk.mk (Cells.arrs (Sh.int i64) x.fst.snd.snd.fst) false none), eL [AV.slc 0 0 (List.length x.fst.fst) Cap.low, AV.slc 1 0 (List.length x.fst.snd.fst) Cap.low, AV.slc 2 0 (List.length x.fst.snd.snd.fst) Cap.low]]
noncomputable def tx30o1o1o0 (N0 N1 : Nat) (x : Sh.Ts [PaneSh]) : List AV := [AV.any, AV.any, vI 40, AV.any, AV.any, AV.any, AV.any, AV.any, AV.any, AV.any, AV.any, AV.any, AV.any, AV.any, AV.any, AV.any, AV.any, AV.any, AV.any, AV.any, AV.any, AV.any, AV.any, AV.any, AV.any, AV.any, AV.any, AV.any, AV.any, AV.any, AV.any, AV.any, AV.any, AV.any, AV.any, AV.any, AV.any, AV.any, AV.any, AV.any, AV.any, AV.any, AV.any, AV.any, AV.any, AV.any, AV.any, AV.any, AV.any, AV.any, AV.any, AV.any, AV.any, AV.any, AV.any, AV.any, AV.any, AV.any, AV.any, AV.any, AV.any, AV.any, AV.any, AV.any, AV.any, AV.any, AV.any, AV.any, AV.any, AV.any, AV.any, AV.any, AV.any, AV.any, AV.any, AV.any, AV.any, AV.any, AV.any, AV.any, AV.any, AV.any]
noncomputable def hx30o1o1o0 (N0 N1 : Nat) (x : Sh.Ts [PaneSh]) : Heap := [Ent.live (Blk.mk (Cells.arr (Sh.int i64) x.fst.fst) false none), Ent.live (Blk.mk (Cells.arr (Sh.int i64) x.fst.snd.fst) false none), Ent.live (Blk.mk (Cells.arrs (Sh.int i64) x.fst.snd.snd.fst) false none)]
noncomputable def tx30o1o1o1 (N0 N1 : Nat) (x : Sh.Ts [PaneSh]) : List AV := [AV.any, AV.ptr 3 0, AV.any, AV.any, AV.any, AV.any, AV.any, AV.any, AV.any, AV.any, AV.any, AV.any, AV.any, AV.any, AV.any, AV.any, AV.any, AV.any, AV.any, AV.any, AV.any, AV.any, AV.any, AV.any, AV.any, AV.any, AV.any, AV.any, AV.any, AV.any, AV.any, AV.any, AV.any, AV.any, AV.any, AV.any, AV.any, AV.any, AV.any, AV.any, AV.any, AV.any, AV.any, AV.any, AV.any, AV.any, AV.any, AV.any, AV.any, AV.any, AV.any, AV.any, AV.any, AV.any, AV.any, AV.any, AV.any, AV.any, AV.any, AV.any, AV.any, AV.any, AV.any, AV.any, AV.any, AV.any, AV.any, AV.any, AV.any, AV.any, AV.any, AV.any, AV.any, AV.any, AV.any, AV.any, AV.any, AV.any, AV.any, AV.any, AV.any, AV.any]
noncomputable def hx30o1o1o1 (N0 N1 : Nat) (x : Sh.Ts [PaneSh]) : Heap := [Ent.live (Blk.mk (Cells.arr (Sh.int i64) x.fst.fst) false none), Ent.live (Blk.mk (Cells.arr (Sh.int i64) x.fst.snd.fst) false none), Ent.live (Blk.mk (Cells.arrs (Sh.int i64) x.fst.snd.snd.fst) false none), eL [AV.slc 0 0 (List.length x.fst.fst) Cap.low, AV.slc 1 0 (List.length x.fst.snd.fst) Cap.low, AV.slc 2 0 (List.length x.fst.snd.snd.fst) Cap.low]]
noncomputable def law30o1o1 {β : Type} (N0 N1 : Nat) (x : (PaneT × Unit)) (k0 k1 : Option β) : Nat → Int → Option β
  | 0, _ => none
  | n + 1, i21 => (bif decide (i21 < (↑(List.length x.fst.snd.snd.fst) : Int)) then (bif decide (0 ≤ i21) && decide (i21 < (↑(List.length x.fst.snd.snd.fst) : Int)) then (Option.bind x.fst.snd.snd.fst[i21.toNat]? fun v22 => ((fn60 (v22, ())).bind fun v23 => (bif v23.fst then k0 else law30o1o1 N0 N1 x k0 k1 n (i64.wrap (i21 + 1))))) else none) else k1)
theorem leq30o1o1 {β : Type} (N0 N1 : Nat) (x : Sh.Ts [PaneSh]) (K : Exit → List AV → Heap → Option β) : ∀ (n : Nat) (i21 : Int), ln30o1 N0 N1 n (t30o1o1 N0 N1 x i21) (h30o1o1 N0 N1 x i21) K = law30o1o1 N0 N1 x (K (Exit.ret) (tx30o1o1o0 N0 N1 x) (hx30o1o1o0 N0 N1 x)) (K (Exit.exit 2) (tx30o1o1o1 N0 N1 x) (hx30o1o1o1 N0 N1 x)) n i21
  | 0, _ => rfl
  | n + 1, i21 => by
    have h : ln30o1 N0 N1 (n + 1) (t30o1o1 N0 N1 x i21) (h30o1o1 N0 N1 x i21) K = (bif decide (i21 < (↑(List.length x.fst.snd.snd.fst) : Int)) then (bif decide (0 ≤ i21) && decide (i21 < (↑(List.length x.fst.snd.snd.fst) : Int)) then ((x.fst.snd.snd.fst[0 + i21.toNat]?).bind fun v22 => (bif decide (v22.length = v22.length) && true then ((fn60 (v22, ())).bind fun v23 => (bif v23.fst then K (Exit.ret) (tx30o1o1o0 N0 N1 x) (hx30o1o1o0 N0 N1 x) else ln30o1 N0 N1 n (t30o1o1 N0 N1 x (i64.wrap (i21 + 1))) (h30o1o1 N0 N1 x (i64.wrap (i21 + 1))) K)) else none)) else none) else K (Exit.exit 2) (tx30o1o1o1 N0 N1 x) (hx30o1o1o1 N0 N1 x)) := by kernel_rfl
    rw [h]
    simp only [decide_self, decide_true, Nat.zero_add, Bool.and_true, Bool.true_and, cond_true, law30o1o1, leq30o1o1 N0 N1 x K n, leq30o0]
theorem rest30o0o0 (N0 N1 : Nat) (x : Sh.Ts [PaneSh]) : rk30o0 N0 N1 (Exit.ret) (tx30o0o0 N0 N1 x) (hx30o0o0 N0 N1 x) = some ((42, ())) := by kernel_rfl
theorem rest30o1o1o0 (N0 N1 : Nat) (x : Sh.Ts [PaneSh]) : rk30o1 N0 N1 (Exit.ret) (tx30o1o1o0 N0 N1 x) (hx30o1o1o0 N0 N1 x) = some ((40, ())) := by kernel_rfl
theorem rest30o1o1o1 (N0 N1 : Nat) (x : Sh.Ts [PaneSh]) : rk30o1 N0 N1 (Exit.exit 2) (tx30o1o1o1 N0 N1 x) (hx30o1o1o1 N0 N1 x) = ((fn61 (x.fst.fst, ())).bind fun v24 => (bif v24.fst then some ((41, ())) else ((fn61 (x.fst.snd.fst, ())).bind fun v25 => (bif v25.fst then some ((41, ())) else some ((0, ())))))) := by
  have h : rk30o1 N0 N1 (Exit.exit 2) (tx30o1o1o1 N0 N1 x) (hx30o1o1o1 N0 N1 x) = (bif decide (List.length x.fst.fst = List.length x.fst.fst) && true then ((fn61 (x.fst.fst, ())).bind fun v24 => (bif v24.fst then some ((41, ())) else (bif decide (List.length x.fst.snd.fst = List.length x.fst.snd.fst) && true then ((fn61 (x.fst.snd.fst, ())).bind fun v25 => (bif v25.fst then some ((41, ())) else some ((0, ())))) else none))) else none) := by kernel_rfl
  rw [h]
  simp only [decide_self, decide_true, Nat.zero_add, Bool.and_true, Bool.true_and, cond_true, leq30o0, leq30o1o1, rest30o0o0, rest30o1o1o0]
theorem rest30o0o1 (N0 N1 : Nat) (x : Sh.Ts [PaneSh]) : rk30o0 N0 N1 (Exit.exit 0) (tx30o0o1 N0 N1 x) (hx30o0o1 N0 N1 x) = ((fn60 (x.fst.fst, ())).bind fun v10 => (bif v10.fst then some ((40, ())) else ((fn60 (x.fst.snd.fst, ())).bind fun v11 => (bif v11.fst then some ((40, ())) else (law30o1o1 N0 N1 x (some ((40, ()))) (((fn61 (x.fst.fst, ())).bind fun v24 => (bif v24.fst then some ((41, ())) else ((fn61 (x.fst.snd.fst, ())).bind fun v25 => (bif v25.fst then some ((41, ())) else some ((0, ()))))))) N1 0))))) := by
  have h : rk30o0 N0 N1 (Exit.exit 0) (tx30o0o1 N0 N1 x) (hx30o0o1 N0 N1 x) = (bif decide (List.length x.fst.fst = List.length x.fst.fst) && true then ((fn60 (x.fst.fst, ())).bind fun v10 => (bif v10.fst then some ((40, ())) else (bif decide (List.length x.fst.snd.fst = List.length x.fst.snd.fst) && true then ((fn60 (x.fst.snd.fst, ())).bind fun v11 => (bif v11.fst then some ((40, ())) else (ln30o1 N0 N1 N1 (t30o1o1 N0 N1 x 0) (h30o1o1 N0 N1 x 0) (rk30o1 N0 N1)))) else none))) else none) := by kernel_rfl
  rw [h]
  simp only [decide_self, decide_true, Nat.zero_add, Bool.and_true, Bool.true_and, cond_true, leq30o0, leq30o1o1, rest30o0o0, rest30o1o1o0, rest30o1o1o1]
noncomputable def law30 (N0 N1 : Nat) (x : (PaneT × Unit)) : Option ((Int × Unit)) := (bif decide ((↑(List.length x.fst.fst) : Int) < 2) then some ((42, ())) else (bif decide ((↑(List.length x.fst.fst) : Int) > 32) then some ((42, ())) else (bif decide ((↑(List.length x.fst.snd.fst) : Int) < 2) then some ((42, ())) else (bif decide ((↑(List.length x.fst.snd.fst) : Int) > 32) then some ((42, ())) else (bif (↑(List.length x.fst.snd.snd.fst) : Int) != (↑(List.length x.fst.snd.fst) : Int) then some ((42, ())) else (law30o0 N0 N1 x (some ((42, ()))) (((fn60 (x.fst.fst, ())).bind fun v10 => (bif v10.fst then some ((40, ())) else ((fn60 (x.fst.snd.fst, ())).bind fun v11 => (bif v11.fst then some ((40, ())) else (law30o1o1 N0 N1 x (some ((40, ()))) (((fn61 (x.fst.fst, ())).bind fun v24 => (bif v24.fst then some ((41, ())) else ((fn61 (x.fst.snd.fst, ())).bind fun v25 => (bif v25.fst then some ((41, ())) else some ((0, ()))))))) N1 0)))))) N0 0))))))
theorem eq30 (N0 N1 : Nat) (x : Sh.Ts [PaneSh]) : codeLaw Tryz.prog env30 200 (L30 N0 N1) Tryz.f30 c30 [PaneSh] [.int .i64] x = law30 N0 N1 x := by
  have h : codeLaw Tryz.prog env30 200 (L30 N0 N1) Tryz.f30 c30 [PaneSh] [.int .i64] x = (bif decide ((↑(List.length x.fst.fst) : Int) < 2) then some ((42, ())) else (bif decide ((↑(List.length x.fst.fst) : Int) > 32) then some ((42, ())) else (bif decide ((↑(List.length x.fst.snd.fst) : Int) < 2) then some ((42, ())) else (bif decide ((↑(List.length x.fst.snd.fst) : Int) > 32) then some ((42, ())) else (bif (↑(List.length x.fst.snd.snd.fst) : Int) != (↑(List.length x.fst.snd.fst) : Int) then some ((42, ())) else (ln30o0 N0 N1 N0 (t30o0 N0 N1 x 0) (h30o0 N0 N1 x 0) (rk30o0 N0 N1))))))) := by kernel_rfl
  rw [h]
  unfold law30
  simp only [decide_self, decide_true, Nat.zero_add, Bool.and_true, Bool.true_and, cond_true, leq30o0, leq30o1o1, rest30o0o0, rest30o1o1o0, rest30o1o1o1, rest30o0o1]
noncomputable def fn30 := law30 (10 ^ 30) (10 ^ 30)
theorem reads30 : Reads Tryz.prog 30 [PaneSh] [.int .i64] fn30 := (Reads.of_code mixed (fn := Tryz.f30) (c := c30) Tryz.func30 (by kernel_rfl) (by kernel_rfl) env30 200 (L30_fit _ _) (by kernel_rfl)).to (eq30 _ _)
noncomputable def s30 : Summ Tryz.prog := reads30.summ
noncomputable def c4 : Code := (Tryz.f4.body.getD .skip)
noncomputable def env4 : Env Tryz.prog := ⟨[s10], none⟩
noncomputable def law4 (x : (CarT × Unit)) : Option ((Bool × Unit)) := (bif decide ((↑(List.length x.fst.snd.snd.snd.snd.fst) : Int) ≤ 40) then (bif decide ((↑(List.length x.fst.snd.snd.snd.snd.snd.snd.fst) : Int) ≤ 40) then (bif decide ((↑(List.length x.fst.snd.snd.snd.snd.snd.snd.snd.fst) : Int) ≤ 40) then (bif decide ((↑(List.length x.fst.snd.snd.snd.snd.snd.snd.snd.snd.snd.snd.snd.snd.snd.snd.snd.snd.fst) : Int) ≤ 20) then ((fn10 (x.fst.snd.snd.snd.snd.snd.fst, ())).bind fun v0 => some ((v0.fst, ()))) else some ((false, ()))) else some ((false, ()))) else some ((false, ()))) else some ((false, ())))
theorem eq4 (x : Sh.Ts [CarSh]) : codeLaw Tryz.prog env4 200 [] Tryz.f4 c4 [CarSh] [.bool] x = law4 x := by
  have h : codeLaw Tryz.prog env4 200 [] Tryz.f4 c4 [CarSh] [.bool] x = (bif decide ((↑(List.length x.fst.snd.snd.snd.snd.fst) : Int) ≤ 40) then (bif decide ((↑(List.length x.fst.snd.snd.snd.snd.snd.snd.fst) : Int) ≤ 40) then (bif decide ((↑(List.length x.fst.snd.snd.snd.snd.snd.snd.snd.fst) : Int) ≤ 40) then (bif decide ((↑(List.length x.fst.snd.snd.snd.snd.snd.snd.snd.snd.snd.snd.snd.snd.snd.snd.snd.snd.fst) : Int) ≤ 20) then (bif decide (List.length x.fst.snd.snd.snd.snd.snd.fst.fst = List.length x.fst.snd.snd.snd.snd.snd.fst.fst) && (decide (List.length x.fst.snd.snd.snd.snd.snd.fst.snd.fst = List.length x.fst.snd.snd.snd.snd.snd.fst.snd.fst) && (decide (List.length x.fst.snd.snd.snd.snd.snd.fst.snd.snd.fst = List.length x.fst.snd.snd.snd.snd.snd.fst.snd.snd.fst) && true)) && true then ((fn10 (x.fst.snd.snd.snd.snd.snd.fst, ())).bind fun v0 => some ((v0.fst, ()))) else none) else some ((false, ()))) else some ((false, ()))) else some ((false, ()))) else some ((false, ()))) := by kernel_rfl
  rw [h]
  unfold law4
  simp only [decide_self, decide_true, Nat.zero_add, Bool.and_true, Bool.true_and, cond_true]
noncomputable def fn4 := law4
theorem reads4 : Reads Tryz.prog 4 [CarSh] [.bool] fn4 := (Reads.of_code mixed (fn := Tryz.f4) (c := c4) Tryz.func4 (by kernel_rfl) (by kernel_rfl) env4 200 Loops.fit_nil (by kernel_rfl)).to (eq4)
noncomputable def s4 : Summ Tryz.prog := reads4.summ
noncomputable def c13 : Code := (Tryz.f13.body.getD .skip)
noncomputable def env13 : Env Tryz.prog := ⟨[s30, s32, s31], none⟩
noncomputable def b13o0 : Code := ((kid ((subAt c13 [0, 1, 0, 1, 1, 1]).getD .skip) 0).getD .skip)
noncomputable def kx13o0 : Exit → List Nat | .ret => [8] | .exit 0 => [0, 3, 9] | _ => []
noncomputable def Li13o0 (N0 : Nat) : Loops Tryz.prog := []
noncomputable def ls13o0 (N0 : Nat) : LSumm Tryz.prog := loopSumm mixed env13 200 (Li13o0 N0) b13o0 (Loops.fit_nil) [0, 2, 3, 5, 9, 10] kx13o0 (Nat.succ N0)
noncomputable def ln13o0 {β : Type} (N0 n : Nat) (t : List AV) (h : Heap) (K : Exit → List AV → Heap → Option β) : Option β := loopN Tryz.prog env13 (Sh.nes [PaneSh, .int .i64, .int .i64] + 1) 200 (Li13o0 N0) b13o0 [0, 2, 3, 5, 9, 10] kx13o0 n t h K
noncomputable def L13 (N0 : Nat) : Loops Tryz.prog := [([0, 1, 0, 1, 1, 1], ls13o0 N0)]
theorem L13_fit (N0 : Nat) : (L13 N0).fit c13 := Loops.fit_cons (by kernel_rfl) (Loops.fit_nil)
noncomputable def K13 : Exit → List AV → Heap → Option (Sh.T (Mx1Sh) × Sh.Ts [.int .i64]) := fun e t h => outM (P := Tryz.prog) Tryz.f13 (Mx1Sh) (Sh.nes [PaneSh, .int .i64, .int .i64]) [.int .i64] e t h
noncomputable def rk13o0 (N0 : Nat) : Exit → List AV → Heap → Option (Sh.T (Mx1Sh) × Sh.Ts [.int .i64]) := (blkK 0 (seqK Tryz.prog env13 (Sh.nes [PaneSh, .int .i64, .int .i64] + 1) 196 (L13 N0) [1, 1, 1, 1] ((subAt c13 [1, 1, 1, 1]).getD .skip) K13))
noncomputable def t13o0 (N0 : Nat) (x : Sh.Ts [PaneSh, Sh.int i64, Sh.int i64]) (i19 : Nat) (i20 : Int) (i21 : Sh.bool.T) (i22 : List (Sh.st [Sh.int i64, Sh.int i64]).T) : List AV := [AV.ptr 3 0, AV.any, vI x.snd.fst, vI x.snd.snd.fst, AV.any, AV.ptr 4 0, AV.any, AV.any, AV.any, AV.slc 5 0 i19 Cap.unk, vI i20, AV.any, AV.any, AV.any, AV.any, AV.any, AV.any, AV.any, AV.any, AV.any, AV.any, AV.any, AV.any, AV.any, AV.any, AV.any, AV.any, AV.any, AV.any, AV.any, AV.any, AV.any, AV.any, AV.any, AV.any, AV.any, AV.any, AV.any, AV.any, AV.any]
noncomputable def h13o0 (N0 : Nat) (x : Sh.Ts [PaneSh, Sh.int i64, Sh.int i64]) (i19 : Nat) (i20 : Int) (i21 : Sh.bool.T) (i22 : List (Sh.st [Sh.int i64, Sh.int i64]).T) : Heap := [Ent.live (Blk.mk (Cells.arr (Sh.int i64) x.fst.fst) false none), Ent.live (Blk.mk (Cells.arr (Sh.int i64) x.fst.snd.fst) false none), Ent.live (Blk.mk (Cells.arrs (Sh.int i64) x.fst.snd.snd.fst) false none), eL [vB i21], eL [AV.slc 0 0 (List.length x.fst.fst) Cap.low, AV.slc 1 0 (List.length x.fst.snd.fst) Cap.low, AV.slc 2 0 (List.length x.fst.snd.snd.fst) Cap.low], Ent.live (Blk.mk (Cells.arr (Sh.st [Sh.int i64, Sh.int i64]) i22) true (some 2))]
noncomputable def tx13o0o0 (N0 : Nat) (x : Sh.Ts [PaneSh, Sh.int i64, Sh.int i64]) (w26 : Nat) (w27 : Sh.bool.T) (w28 : List (Sh.st [Sh.int i64, Sh.int i64]).T) : List AV := [AV.ptr 3 0, AV.any, AV.any, vI x.snd.snd.fst, AV.any, AV.any, AV.any, AV.any, AV.any, AV.slc 4 0 w26 Cap.unk, AV.any, AV.any, AV.any, AV.any, AV.any, AV.any, AV.any, AV.any, AV.any, AV.any, AV.any, AV.any, AV.any, AV.any, AV.any, AV.any, AV.any, AV.any, AV.any, AV.any, AV.any, AV.any, AV.any, AV.any, AV.any, AV.any, AV.any, AV.any, AV.any, AV.any]
noncomputable def hx13o0o0 (N0 : Nat) (x : Sh.Ts [PaneSh, Sh.int i64, Sh.int i64]) (w26 : Nat) (w27 : Sh.bool.T) (w28 : List (Sh.st [Sh.int i64, Sh.int i64]).T) : Heap := [Ent.live (Blk.mk (Cells.arr (Sh.int i64) x.fst.fst) false none), Ent.live (Blk.mk (Cells.arr (Sh.int i64) x.fst.snd.fst) false none), Ent.live (Blk.mk (Cells.arrs (Sh.int i64) x.fst.snd.snd.fst) false none), eL [vB w27], Ent.live (Blk.mk (Cells.arr (Sh.st [Sh.int i64, Sh.int i64]) w28) true (some 2))]
noncomputable def law13o0 {β : Type} (N0 : Nat) (x : (PaneT × Int × Int × Unit)) (k0 : Nat → Bool → List (Int × Int × Unit) → Option β) : Nat → Nat → Int → Bool → List (Int × Int × Unit) → Option β
  | 0, _, _, _, _ => none
  | n + 1, i19, i20, i21, i22 => (bif decide (i20 < (↑(List.length x.fst.snd.fst) : Int)) then (bif decide (0 ≤ i20) && decide (i20 < (↑(List.length x.fst.snd.fst) : Int)) then (Option.bind x.fst.snd.fst[i20.toNat]? fun v23 => ((fn32 (x.fst, i20, ())).bind fun v24 => ((fn31 (i21, ()) (v24, x.snd.fst, ())).bind fun v25 => (bif decide (i19 = i22.length) && (decide ((i19 + 1) * Tryz.prog.types[69].bytes ≤ 140737488355328) && decide (i19 + 1 ≤ 9223372036854775807)) then law13o0 N0 x k0 n (i19 + 1) (i64.wrap (i20 + 1)) v25.fst.fst (i22.append [(v23, v25.snd)]) else none)))) else none) else k0 i19 i21 i22)
theorem leq13o0 {β : Type} (N0 : Nat) (x : Sh.Ts [PaneSh, Sh.int i64, Sh.int i64]) (K : Exit → List AV → Heap → Option β) : ∀ (n i19 : Nat) (i20 : Int) (i21 : Sh.bool.T) (i22 : List (Sh.st [Sh.int i64, Sh.int i64]).T), ln13o0 N0 n (t13o0 N0 x i19 i20 i21 i22) (h13o0 N0 x i19 i20 i21 i22) K = law13o0 N0 x (fun w26 w27 w28 => K (Exit.exit 0) (tx13o0o0 N0 x w26 w27 w28) (hx13o0o0 N0 x w26 w27 w28)) n i19 i20 i21 i22
  | 0, _, _, _, _ => rfl
  | n + 1, i19, i20, i21, i22 => by
    have h : ln13o0 N0 (n + 1) (t13o0 N0 x i19 i20 i21 i22) (h13o0 N0 x i19 i20 i21 i22) K = (bif decide (i20 < (↑(List.length x.fst.snd.fst) : Int)) then (bif decide (0 ≤ i20) && decide (i20 < (↑(List.length x.fst.snd.fst) : Int)) then ((x.fst.snd.fst[0 + i20.toNat]?).bind fun v23 => (bif decide (List.length x.fst.fst = List.length x.fst.fst) && (decide (List.length x.fst.snd.fst = List.length x.fst.snd.fst) && (decide (List.length x.fst.snd.snd.fst = List.length x.fst.snd.snd.fst) && true)) && true then ((fn32 (x.fst, i20, ())).bind fun v24 => (bif decide (v24.length = v24.length) && true then ((fn31 (i21, ()) (v24, x.snd.fst, ())).bind fun v25 => (bif decide (i19 = i22.length) && (decide ((i19 + 1) * Tryz.prog.types[69].bytes ≤ 140737488355328) && decide (i19 + 1 ≤ 9223372036854775807)) then ln13o0 N0 n (t13o0 N0 x (i19 + 1) (i64.wrap (i20 + 1)) v25.fst.fst (i22.append [(v23, v25.snd)])) (h13o0 N0 x (i19 + 1) (i64.wrap (i20 + 1)) v25.fst.fst (i22.append [(v23, v25.snd)])) K else none)) else none)) else none)) else none) else K (Exit.exit 0) (tx13o0o0 N0 x i19 i21 i22) (hx13o0o0 N0 x i19 i21 i22)) := by kernel_rfl
    rw [h]
    simp only [decide_self, decide_true, Nat.zero_add, Bool.and_true, Bool.true_and, cond_true, law13o0, leq13o0 N0 x K n]
theorem rest13o0o0 (N0 : Nat) (x : Sh.Ts [PaneSh, Sh.int i64, Sh.int i64]) (w29 : Nat) (w30 : Sh.bool.T) (w31 : List (Sh.st [Sh.int i64, Sh.int i64]).T) : rk13o0 N0 (Exit.exit 0) (tx13o0o0 N0 x w29 w30 w31) (hx13o0o0 N0 x w29 w30 w31) = (bif decide (w29 = w31.length) then ((fn31 (w30, ()) (w31, x.snd.snd)).bind fun v32 => some (((v32.fst.fst, ()), v32.snd.fst, ()))) else none) := by
  have h : rk13o0 N0 (Exit.exit 0) (tx13o0o0 N0 x w29 w30 w31) (hx13o0o0 N0 x w29 w30 w31) = (bif decide (w29 = w31.length) && true then ((fn31 (w30, ()) (w31, x.snd.snd)).bind fun v32 => some (((v32.fst.fst, ()), v32.snd.fst, ()))) else none) := by kernel_rfl
  rw [h]
  simp only [decide_self, decide_true, Nat.zero_add, Bool.and_true, Bool.true_and, cond_true, leq13o0]
noncomputable def law13 (N0 : Nat) (m : Mx1T) (x : (PaneT × Int × Int × Unit)) : Option (Mx1T × (Int × Unit)) := ((fn30 (x.fst, ())).bind fun v0 => (bif v0.fst != 0 then some (((m.fst, ()), 0, ())) else (bif decide (0 < (↑(List.length x.fst.snd.fst) : Int)) then (bif decide (0 ≤ 0) && decide (0 < (↑(List.length x.fst.snd.fst) : Int)) then ((x.fst.snd.fst[Int.toNat 0]?).bind fun v1 => ((fn32 (x.fst, 0, ())).bind fun v2 => ((fn31 m (v2, x.snd.fst, ())).bind fun v3 => (law13o0 N0 x (fun w29 w30 w31 => (bif decide (w29 = w31.length) then ((fn31 (w30, ()) (w31, x.snd.snd)).bind fun v32 => some (((v32.fst.fst, ()), v32.snd.fst, ()))) else none)) N0 1 (i64.wrap (0 + 1)) v3.fst.fst ([(v1, v3.snd)]))))) else none) else some (((m.fst, ()), 0, ())))))
theorem eq13 (N0 : Nat) (m : Mx1Sh.T) (x : Sh.Ts [PaneSh, Sh.int i64, Sh.int i64]) : codeLawM Tryz.prog env13 200 (L13 N0) Tryz.f13 c13 (Mx1Sh) [PaneSh, .int .i64, .int .i64] [.int .i64] m x = law13 N0 m x := by
  have h : codeLawM Tryz.prog env13 200 (L13 N0) Tryz.f13 c13 (Mx1Sh) [PaneSh, .int .i64, .int .i64] [.int .i64] m x = (bif decide (List.length x.fst.fst = List.length x.fst.fst) && (decide (List.length x.fst.snd.fst = List.length x.fst.snd.fst) && (decide (List.length x.fst.snd.snd.fst = List.length x.fst.snd.snd.fst) && true)) && true then ((fn30 (x.fst, ())).bind fun v0 => (bif v0.fst != 0 then some (((m.fst, ()), 0, ())) else (bif decide (0 < (↑(List.length x.fst.snd.fst) : Int)) then (bif decide (0 ≤ 0) && decide (0 < (↑(List.length x.fst.snd.fst) : Int)) then ((x.fst.snd.fst[0 + Int.toNat 0]?).bind fun v1 => (bif decide (List.length x.fst.fst = List.length x.fst.fst) && (decide (List.length x.fst.snd.fst = List.length x.fst.snd.fst) && (decide (List.length x.fst.snd.snd.fst = List.length x.fst.snd.snd.fst) && true)) && true then ((fn32 (x.fst, 0, ())).bind fun v2 => (bif decide (v2.length = v2.length) && true then ((fn31 m (v2, x.snd.fst, ())).bind fun v3 => (ln13o0 N0 N0 (t13o0 N0 x 1 (i64.wrap (0 + 1)) v3.fst.fst ([(v1, v3.snd)])) (h13o0 N0 x 1 (i64.wrap (0 + 1)) v3.fst.fst ([(v1, v3.snd)])) (rk13o0 N0))) else none)) else none)) else none) else some (((m.fst, ()), 0, ()))))) else none) := by kernel_rfl
  rw [h]
  unfold law13
  simp only [decide_self, decide_true, Nat.zero_add, Bool.and_true, Bool.true_and, cond_true, leq13o0, rest13o0o0]
noncomputable def fn13 := law13 (10 ^ 30)
theorem acts13 : Acts Tryz.prog 13 (Mx1Sh) [PaneSh, .int .i64, .int .i64] [.int .i64] fn13 := (Acts.of_code mixed (fn := Tryz.f13) (c := c13) Tryz.func13 (by kernel_rfl) (by kernel_rfl) env13 200 (L13_fit _) (by kernel_rfl) (by kernel_rfl)).to (eq13 _)
noncomputable def s13 : Summ Tryz.prog := acts13.summ (by kernel_rfl)
noncomputable def c85 : Code := (Tryz.f85.body.getD .skip)
noncomputable def env85 : Env Tryz.prog := ⟨[], none⟩
noncomputable def law85 (x : (sizeT × sizeT × Unit)) : Option ((Bool × Unit)) := (bif decide (x.fst.fst < x.snd.fst.fst) then some ((true, ())) else (bif x.fst.fst == x.snd.fst.fst then some ((decide (x.fst.snd.fst < x.snd.fst.snd.fst), ())) else some ((false, ()))))
theorem eq85 (x : Sh.Ts [sizeSh, sizeSh]) : codeLaw Tryz.prog env85 200 [] Tryz.f85 c85 [sizeSh, sizeSh] [.bool] x = law85 x := by kernel_rfl
noncomputable def fn85 := law85
theorem reads85 : Reads Tryz.prog 85 [sizeSh, sizeSh] [.bool] fn85 := (Reads.of_code mixed (fn := Tryz.f85) (c := c85) Tryz.func85 (by kernel_rfl) (by kernel_rfl) env85 200 Loops.fit_nil (by kernel_rfl)).to (eq85)
noncomputable def s85 : Summ Tryz.prog := reads85.summ
noncomputable def c66 : Code := (Tryz.f66.body.getD .skip)
noncomputable def env66 : Env Tryz.prog := ⟨[s64, s85], none⟩
noncomputable def b66o0 : Code := ((kid ((subAt c66 [0, 0, 1, 1, 1, 1]).getD .skip) 0).getD .skip)
noncomputable def kx66o0 : Exit → List Nat | .ret => [2] | .exit 0 => [4] | _ => []
noncomputable def Li66o0 (N0 : Nat) : Loops Tryz.prog := []
noncomputable def ls66o0 (N0 : Nat) : LSumm Tryz.prog := loopSumm mixed env66 200 (Li66o0 N0) b66o0 (Loops.fit_nil) [3, 4, 5] kx66o0 (N0)
noncomputable def ln66o0 {β : Type} (N0 n : Nat) (t : List AV) (h : Heap) (K : Exit → List AV → Heap → Option β) : Option β := loopN Tryz.prog env66 (Sh.nes [IntSh]) 200 (Li66o0 N0) b66o0 [3, 4, 5] kx66o0 n t h K
noncomputable def L66 (N0 : Nat) : Loops Tryz.prog := [([0, 0, 1, 1, 1, 1], ls66o0 N0)]
theorem L66_fit (N0 : Nat) : (L66 N0).fit c66 := Loops.fit_cons (by kernel_rfl) (Loops.fit_nil)
noncomputable def K66 : Exit → List AV → Heap → Option (Sh.Ts [.int .u64]) := fun e t h => outK (P := Tryz.prog) Tryz.f66 [.int .u64] e t h
noncomputable def rk66o0 (N0 : Nat) : Exit → List AV → Heap → Option (Sh.Ts [.int .u64]) := (blkK 0 (seqK Tryz.prog env66 (Sh.nes [IntSh]) 195 (L66 N0) [1, 1, 1, 1, 1] ((subAt c66 [1, 1, 1, 1, 1]).getD .skip) K66))
noncomputable def t66o0 (N0 : Nat) (x : Sh.Ts [IntSh]) (i5 i6 : Int) : List AV := [AV.any, AV.any, AV.any, AV.ptr 0 0, vU i5, vU i6, AV.any, AV.any, AV.any, AV.any, AV.any, AV.any, AV.any, AV.any, AV.any, AV.any, AV.any, AV.any, AV.any, AV.any, AV.any, AV.any, AV.any, AV.any, AV.any, AV.any, AV.any, AV.any, AV.any, AV.any, AV.any, AV.any, AV.any, AV.any, AV.any, AV.any, AV.any, AV.any, AV.any, AV.any, AV.any, AV.any, AV.any, AV.any, AV.any, AV.any, AV.any, AV.any]
noncomputable def h66o0 (N0 : Nat) (x : Sh.Ts [IntSh]) (i5 i6 : Int) : Heap := [eL [vU (u64.wrap x.fst.fst), vU x.fst.snd.fst]]
noncomputable def tx66o0o0 (N0 : Nat) (x : Sh.Ts [IntSh]) (w8 : Int) : List AV := [AV.any, AV.any, AV.any, AV.any, vU w8, AV.any, AV.any, AV.any, AV.any, AV.any, AV.any, AV.any, AV.any, AV.any, AV.any, AV.any, AV.any, AV.any, AV.any, AV.any, AV.any, AV.any, AV.any, AV.any, AV.any, AV.any, AV.any, AV.any, AV.any, AV.any, AV.any, AV.any, AV.any, AV.any, AV.any, AV.any, AV.any, AV.any, AV.any, AV.any, AV.any, AV.any, AV.any, AV.any, AV.any, AV.any, AV.any, AV.any]
noncomputable def hx66o0o0 (N0 : Nat) (x : Sh.Ts [IntSh]) (w8 : Int) : Heap := []
noncomputable def law66o0 {β : Type} (N0 : Nat) (x : (IntT × Unit)) (k0 : Int → Option β) : Nat → Int → Int → Option β
  | 0, _, _ => none
  | n + 1, i5, i6 => (bif decide (i5 < i6) then ((fn85 ((u64.wrap x.fst.fst, x.fst.snd), (u64.wrap (u64.wrap (u64.wrap ((u64.wrap (i5 + u64.wrap ((u64.wrap (u64.wrap (i6 - i5) + 1)).tdiv 2))).fdiv (2 ^ min (Int.toNat 32) 64) * (u64.wrap (i5 + u64.wrap ((u64.wrap (u64.wrap (i6 - i5) + 1)).tdiv 2))).fdiv (2 ^ min (Int.toNat 32) 64)) + (u64.wrap (u64.wrap ((u64.wrap (i5 + u64.wrap ((u64.wrap (u64.wrap (i6 - i5) + 1)).tdiv 2))).fdiv (2 ^ min (Int.toNat 32) 64) * u64.wrap (↑(BitVec.ofInt 64 (u64.wrap (i5 + u64.wrap ((u64.wrap (u64.wrap (i6 - i5) + 1)).tdiv 2))) &&& BitVec.ofInt 64 4294967295).toNat : Int)) + (u64.wrap (u64.wrap (↑(BitVec.ofInt 64 (u64.wrap (i5 + u64.wrap ((u64.wrap (u64.wrap (i6 - i5) + 1)).tdiv 2))) &&& BitVec.ofInt 64 4294967295).toNat : Int) * u64.wrap (↑(BitVec.ofInt 64 (u64.wrap (i5 + u64.wrap ((u64.wrap (u64.wrap (i6 - i5) + 1)).tdiv 2))) &&& BitVec.ofInt 64 4294967295).toNat : Int))).fdiv (2 ^ min (Int.toNat 32) 64))).fdiv (2 ^ min (Int.toNat 32) 64)) + (u64.wrap (u64.wrap (↑(BitVec.ofInt 64 (u64.wrap (u64.wrap ((u64.wrap (i5 + u64.wrap ((u64.wrap (u64.wrap (i6 - i5) + 1)).tdiv 2))).fdiv (2 ^ min (Int.toNat 32) 64) * u64.wrap (↑(BitVec.ofInt 64 (u64.wrap (i5 + u64.wrap ((u64.wrap (u64.wrap (i6 - i5) + 1)).tdiv 2))) &&& BitVec.ofInt 64 4294967295).toNat : Int)) + (u64.wrap (u64.wrap (↑(BitVec.ofInt 64 (u64.wrap (i5 + u64.wrap ((u64.wrap (u64.wrap (i6 - i5) + 1)).tdiv 2))) &&& BitVec.ofInt 64 4294967295).toNat : Int) * u64.wrap (↑(BitVec.ofInt 64 (u64.wrap (i5 + u64.wrap ((u64.wrap (u64.wrap (i6 - i5) + 1)).tdiv 2))) &&& BitVec.ofInt 64 4294967295).toNat : Int))).fdiv (2 ^ min (Int.toNat 32) 64))) &&& BitVec.ofInt 64 4294967295).toNat : Int) + u64.wrap (u64.wrap (↑(BitVec.ofInt 64 (u64.wrap (i5 + u64.wrap ((u64.wrap (u64.wrap (i6 - i5) + 1)).tdiv 2))) &&& BitVec.ofInt 64 4294967295).toNat : Int) * (u64.wrap (i5 + u64.wrap ((u64.wrap (u64.wrap (i6 - i5) + 1)).tdiv 2))).fdiv (2 ^ min (Int.toNat 32) 64)))).fdiv (2 ^ min (Int.toNat 32) 64)), u64.wrap (u64.wrap (i5 + u64.wrap ((u64.wrap (u64.wrap (i6 - i5) + 1)).tdiv 2)) * u64.wrap (i5 + u64.wrap ((u64.wrap (u64.wrap (i6 - i5) + 1)).tdiv 2))), ()), ())).bind fun v7 => (bif v7.fst then law66o0 N0 x k0 n i5 (u64.wrap (u64.wrap (i5 + u64.wrap ((u64.wrap (u64.wrap (i6 - i5) + 1)).tdiv 2)) - 1)) else law66o0 N0 x k0 n (u64.wrap (i5 + u64.wrap ((u64.wrap (u64.wrap (i6 - i5) + 1)).tdiv 2))) i6)) else k0 i5)
theorem leq66o0 {β : Type} (N0 : Nat) (x : Sh.Ts [IntSh]) (K : Exit → List AV → Heap → Option β) : ∀ (n : Nat) (i5 i6 : Int), ln66o0 N0 n (t66o0 N0 x i5 i6) (h66o0 N0 x i5 i6) K = law66o0 N0 x (fun w8 => K (Exit.exit 0) (tx66o0o0 N0 x w8) (hx66o0o0 N0 x w8)) n i5 i6
  | 0, _, _ => rfl
  | n + 1, i5, i6 => by
    have h : ln66o0 N0 (n + 1) (t66o0 N0 x i5 i6) (h66o0 N0 x i5 i6) K = (bif decide (i5 < i6) then ((fn85 ((u64.wrap x.fst.fst, x.fst.snd), (u64.wrap (u64.wrap (u64.wrap ((u64.wrap (i5 + u64.wrap ((u64.wrap (u64.wrap (i6 - i5) + 1)).tdiv 2))).fdiv (2 ^ min (Int.toNat 32) 64) * (u64.wrap (i5 + u64.wrap ((u64.wrap (u64.wrap (i6 - i5) + 1)).tdiv 2))).fdiv (2 ^ min (Int.toNat 32) 64)) + (u64.wrap (u64.wrap ((u64.wrap (i5 + u64.wrap ((u64.wrap (u64.wrap (i6 - i5) + 1)).tdiv 2))).fdiv (2 ^ min (Int.toNat 32) 64) * u64.wrap (↑(BitVec.ofInt 64 (u64.wrap (i5 + u64.wrap ((u64.wrap (u64.wrap (i6 - i5) + 1)).tdiv 2))) &&& BitVec.ofInt 64 4294967295).toNat : Int)) + (u64.wrap (u64.wrap (↑(BitVec.ofInt 64 (u64.wrap (i5 + u64.wrap ((u64.wrap (u64.wrap (i6 - i5) + 1)).tdiv 2))) &&& BitVec.ofInt 64 4294967295).toNat : Int) * u64.wrap (↑(BitVec.ofInt 64 (u64.wrap (i5 + u64.wrap ((u64.wrap (u64.wrap (i6 - i5) + 1)).tdiv 2))) &&& BitVec.ofInt 64 4294967295).toNat : Int))).fdiv (2 ^ min (Int.toNat 32) 64))).fdiv (2 ^ min (Int.toNat 32) 64)) + (u64.wrap (u64.wrap (↑(BitVec.ofInt 64 (u64.wrap (u64.wrap ((u64.wrap (i5 + u64.wrap ((u64.wrap (u64.wrap (i6 - i5) + 1)).tdiv 2))).fdiv (2 ^ min (Int.toNat 32) 64) * u64.wrap (↑(BitVec.ofInt 64 (u64.wrap (i5 + u64.wrap ((u64.wrap (u64.wrap (i6 - i5) + 1)).tdiv 2))) &&& BitVec.ofInt 64 4294967295).toNat : Int)) + (u64.wrap (u64.wrap (↑(BitVec.ofInt 64 (u64.wrap (i5 + u64.wrap ((u64.wrap (u64.wrap (i6 - i5) + 1)).tdiv 2))) &&& BitVec.ofInt 64 4294967295).toNat : Int) * u64.wrap (↑(BitVec.ofInt 64 (u64.wrap (i5 + u64.wrap ((u64.wrap (u64.wrap (i6 - i5) + 1)).tdiv 2))) &&& BitVec.ofInt 64 4294967295).toNat : Int))).fdiv (2 ^ min (Int.toNat 32) 64))) &&& BitVec.ofInt 64 4294967295).toNat : Int) + u64.wrap (u64.wrap (↑(BitVec.ofInt 64 (u64.wrap (i5 + u64.wrap ((u64.wrap (u64.wrap (i6 - i5) + 1)).tdiv 2))) &&& BitVec.ofInt 64 4294967295).toNat : Int) * (u64.wrap (i5 + u64.wrap ((u64.wrap (u64.wrap (i6 - i5) + 1)).tdiv 2))).fdiv (2 ^ min (Int.toNat 32) 64)))).fdiv (2 ^ min (Int.toNat 32) 64)), u64.wrap (u64.wrap (i5 + u64.wrap ((u64.wrap (u64.wrap (i6 - i5) + 1)).tdiv 2)) * u64.wrap (i5 + u64.wrap ((u64.wrap (u64.wrap (i6 - i5) + 1)).tdiv 2))), ()), ())).bind fun v7 => (bif v7.fst then ln66o0 N0 n (t66o0 N0 x i5 (u64.wrap (u64.wrap (i5 + u64.wrap ((u64.wrap (u64.wrap (i6 - i5) + 1)).tdiv 2)) - 1))) (h66o0 N0 x i5 (u64.wrap (u64.wrap (i5 + u64.wrap ((u64.wrap (u64.wrap (i6 - i5) + 1)).tdiv 2)) - 1))) K else ln66o0 N0 n (t66o0 N0 x (u64.wrap (i5 + u64.wrap ((u64.wrap (u64.wrap (i6 - i5) + 1)).tdiv 2))) i6) (h66o0 N0 x (u64.wrap (i5 + u64.wrap ((u64.wrap (u64.wrap (i6 - i5) + 1)).tdiv 2))) i6) K)) else K (Exit.exit 0) (tx66o0o0 N0 x i5) (hx66o0o0 N0 x i5)) := by kernel_rfl
    rw [h]
    simp only [decide_self, decide_true, Nat.zero_add, Bool.and_true, Bool.true_and, cond_true, law66o0, leq66o0 N0 x K n]
theorem rest66o0o0 (N0 : Nat) (x : Sh.Ts [IntSh]) (w9 : Int) : rk66o0 N0 (Exit.exit 0) (tx66o0o0 N0 x w9) (hx66o0o0 N0 x w9) = some ((w9, ())) := by kernel_rfl
noncomputable def law66 (N0 : Nat) (x : (IntT × Unit)) : Option ((Int × Unit)) := (bif decide (x.fst.fst < 0) then some ((0, ())) else (bif x.fst.fst == 0 && x.fst.snd.fst == 0 then some ((0, ())) else (law66o0 N0 x (fun w9 => some ((w9, ()))) N0 1 13835058055282163712)))
theorem eq66 (N0 : Nat) (x : Sh.Ts [IntSh]) : codeLaw Tryz.prog env66 200 (L66 N0) Tryz.f66 c66 [IntSh] [.int .u64] x = law66 N0 x := by
  have h : codeLaw Tryz.prog env66 200 (L66 N0) Tryz.f66 c66 [IntSh] [.int .u64] x = (bif decide (x.fst.fst < 0) then some ((0, ())) else (bif x.fst.fst == 0 && (x.fst.snd.fst == 0 && true) then some ((0, ())) else (ln66o0 N0 N0 (t66o0 N0 x 1 13835058055282163712) (h66o0 N0 x 1 13835058055282163712) (rk66o0 N0)))) := by kernel_rfl
  rw [h]
  unfold law66
  simp only [decide_self, decide_true, Nat.zero_add, Bool.and_true, Bool.true_and, cond_true, leq66o0, rest66o0o0]
noncomputable def fn66 := law66 (10 ^ 30)
theorem reads66 : Reads Tryz.prog 66 [IntSh] [.int .u64] fn66 := (Reads.of_code mixed (fn := Tryz.f66) (c := c66) Tryz.func66 (by kernel_rfl) (by kernel_rfl) env66 200 (L66_fit _) (by kernel_rfl)).to (eq66 _)
noncomputable def s66 : Summ Tryz.prog := reads66.summ
noncomputable def c38 : Code := (Tryz.f38.body.getD .skip)
noncomputable def env38 : Env Tryz.prog := ⟨[s33, s34, s66], none⟩
noncomputable def b38o0 : Code := ((kid ((subAt c38 [0, 1, 0, 1, 1, 1]).getD .skip) 0).getD .skip)
noncomputable def kx38o0 : Exit → List Nat | .ret => [4] | .exit 0 => [0, 5, 6] | _ => []
noncomputable def Li38o0 (N0 : Nat) : Loops Tryz.prog := []
noncomputable def ls38o0 (N0 : Nat) : LSumm Tryz.prog := loopSumm mixed env38 200 (Li38o0 N0) b38o0 (Loops.fit_nil) [0, 5, 6, 10, 11, 12] kx38o0 (N0)
noncomputable def ln38o0 {β : Type} (N0 n : Nat) (t : List AV) (h : Heap) (K : Exit → List AV → Heap → Option β) : Option β := loopN Tryz.prog env38 (Sh.nes [.sl (.int .i64)] + 1) 200 (Li38o0 N0) b38o0 [0, 5, 6, 10, 11, 12] kx38o0 n t h K
noncomputable def L38 (N0 : Nat) : Loops Tryz.prog := [([0, 1, 0, 1, 1, 1], ls38o0 N0)]
theorem L38_fit (N0 : Nat) : (L38 N0).fit c38 := Loops.fit_cons (by kernel_rfl) (Loops.fit_nil)
noncomputable def K38 : Exit → List AV → Heap → Option (Sh.T (MSh) × Sh.Ts [.int .i64]) := fun e t h => outM (P := Tryz.prog) Tryz.f38 (MSh) (Sh.nes [.sl (.int .i64)]) [.int .i64] e t h
noncomputable def rk38o0 (N0 : Nat) : Exit → List AV → Heap → Option (Sh.T (MSh) × Sh.Ts [.int .i64]) := (blkK 0 (seqK Tryz.prog env38 (Sh.nes [.sl (.int .i64)] + 1) 196 (L38 N0) [1, 1, 1, 1] ((subAt c38 [1, 1, 1, 1]).getD .skip) K38))
noncomputable def t38o0 (N0 : Nat) (m : MSh.T) (x : Sh.Ts [(Sh.int i64).sl]) (i11 : Bool) (i12 i13 i14 : Int) : List AV := [AV.ptr 1 0, AV.any, AV.any, AV.any, AV.any, AV.ptr 2 0, vB i11, AV.any, AV.any, AV.any, AV.slc 0 0 (List.length x.fst) Cap.low, vI (↑(List.length x.fst) : Int), vI i12, AV.any, AV.any, AV.any, AV.any, AV.any, AV.any, AV.any, AV.any, AV.any, AV.any, AV.any, AV.any, AV.any, AV.any, AV.any, AV.any, AV.any, AV.any, AV.any, AV.any, AV.any, AV.any, AV.any, AV.any, AV.any, AV.any, AV.any, AV.any, AV.any]
noncomputable def h38o0 (N0 : Nat) (m : MSh.T) (x : Sh.Ts [(Sh.int i64).sl]) (i11 : Bool) (i12 i13 i14 : Int) : Heap := [Ent.live (Blk.mk (Cells.arr (Sh.int i64) x.fst) false none), eL [vB m.fst], eL [vI i13, vU i14]]
noncomputable def tx38o0o0 (N0 : Nat) (m : MSh.T) (x : Sh.Ts [(Sh.int i64).sl]) (w18 : Sh.bool.T) (w19 : (Sh.int i64).T) (w20 : (Sh.int u64).T) : List AV := [AV.ptr 1 0, AV.any, AV.any, AV.any, AV.any, AV.ptr 2 0, vB w18, AV.any, AV.any, AV.any, AV.any, AV.any, AV.any, AV.any, AV.any, AV.any, AV.any, AV.any, AV.any, AV.any, AV.any, AV.any, AV.any, AV.any, AV.any, AV.any, AV.any, AV.any, AV.any, AV.any, AV.any, AV.any, AV.any, AV.any, AV.any, AV.any, AV.any, AV.any, AV.any, AV.any, AV.any, AV.any]
noncomputable def hx38o0o0 (N0 : Nat) (m : MSh.T) (x : Sh.Ts [(Sh.int i64).sl]) (w18 : Sh.bool.T) (w19 : (Sh.int i64).T) (w20 : (Sh.int u64).T) : Heap := [Ent.live (Blk.mk (Cells.arr (Sh.int i64) x.fst) false none), eL [vB m.fst], eL [vI w19, vU w20]]
noncomputable def law38o0 {β : Type} (N0 : Nat) (m : MT) (x : ((List Int) × Unit)) (k0 : Bool → Int → Int → Option β) : Nat → Bool → Int → Int → Int → Option β
  | 0, _, _, _, _ => none
  | n + 1, i11, i12, i13, i14 => (bif decide (i12 < (↑(List.length x.fst) : Int)) then (bif decide (0 ≤ i12) && decide (i12 < (↑(List.length x.fst) : Int)) then (Option.bind x.fst[i12.toNat]? fun v15 => ((fn33 (v15, v15, ())).bind fun v16 => ((fn34 ((i13, i14, ()), v16)).bind fun v17 => (bif !v17.snd.fst then k0 v17.snd.fst v17.fst.fst v17.fst.snd.fst else law38o0 N0 m x k0 n v17.snd.fst (i64.wrap (i12 + 1)) v17.fst.fst v17.fst.snd.fst)))) else none) else k0 i11 i13 i14)
theorem leq38o0 {β : Type} (N0 : Nat) (m : MSh.T) (x : Sh.Ts [(Sh.int i64).sl]) (K : Exit → List AV → Heap → Option β) : ∀ (n : Nat) (i11 : Bool) (i12 i13 i14 : Int), ln38o0 N0 n (t38o0 N0 m x i11 i12 i13 i14) (h38o0 N0 m x i11 i12 i13 i14) K = law38o0 N0 m x (fun w18 w19 w20 => K (Exit.exit 0) (tx38o0o0 N0 m x w18 w19 w20) (hx38o0o0 N0 m x w18 w19 w20)) n i11 i12 i13 i14
  | 0, _, _, _, _ => rfl
  | n + 1, i11, i12, i13, i14 => by
    have h : ln38o0 N0 (n + 1) (t38o0 N0 m x i11 i12 i13 i14) (h38o0 N0 m x i11 i12 i13 i14) K = (bif decide (i12 < (↑(List.length x.fst) : Int)) then (bif decide (0 ≤ i12) && decide (i12 < (↑(List.length x.fst) : Int)) then ((x.fst[0 + i12.toNat]?).bind fun v15 => ((fn33 (v15, v15, ())).bind fun v16 => ((fn34 ((i13, i14, ()), v16)).bind fun v17 => (bif !v17.snd.fst then K (Exit.exit 0) (tx38o0o0 N0 m x v17.snd.fst v17.fst.fst v17.fst.snd.fst) (hx38o0o0 N0 m x v17.snd.fst v17.fst.fst v17.fst.snd.fst) else ln38o0 N0 n (t38o0 N0 m x v17.snd.fst (i64.wrap (i12 + 1)) v17.fst.fst v17.fst.snd.fst) (h38o0 N0 m x v17.snd.fst (i64.wrap (i12 + 1)) v17.fst.fst v17.fst.snd.fst) K)))) else none) else K (Exit.exit 0) (tx38o0o0 N0 m x i11 i13 i14) (hx38o0o0 N0 m x i11 i13 i14)) := by kernel_rfl
    rw [h]
    simp only [decide_self, decide_true, Nat.zero_add, Bool.and_true, Bool.true_and, cond_true, law38o0, leq38o0 N0 m x K n]
theorem rest38o0o0 (N0 : Nat) (m : MSh.T) (x : Sh.Ts [(Sh.int i64).sl]) (w21 : Sh.bool.T) (w22 : (Sh.int i64).T) (w23 : (Sh.int u64).T) : rk38o0 N0 (Exit.exit 0) (tx38o0o0 N0 m x w21 w22 w23) (hx38o0o0 N0 m x w21 w22 w23) = ((fn66 ((w22, w23, ()), ())).bind fun v24 => (bif !w21 then some (((true, ()), 9223372036854775807, ())) else (bif decide (v24.fst > 9223372036854775807) then some (((true, ()), 9223372036854775807, ())) else some (((m.fst, ()), i64.wrap v24.fst, ()))))) := by kernel_rfl
noncomputable def law38 (N0 : Nat) (m : MT) (x : ((List Int) × Unit)) : Option (MT × (Int × Unit)) := (law38o0 N0 m x (fun w21 w22 w23 => ((fn66 ((w22, w23, ()), ())).bind fun v24 => (bif !w21 then some (((true, ()), 9223372036854775807, ())) else (bif decide (v24.fst > 9223372036854775807) then some (((true, ()), 9223372036854775807, ())) else some (((m.fst, ()), i64.wrap v24.fst, ())))))) N0 true 0 0 0)
theorem eq38 (N0 : Nat) (m : MSh.T) (x : Sh.Ts [(Sh.int i64).sl]) : codeLawM Tryz.prog env38 200 (L38 N0) Tryz.f38 c38 (MSh) [.sl (.int .i64)] [.int .i64] m x = law38 N0 m x := by
  have h : codeLawM Tryz.prog env38 200 (L38 N0) Tryz.f38 c38 (MSh) [.sl (.int .i64)] [.int .i64] m x = (ln38o0 N0 N0 (t38o0 N0 m x true 0 0 0) (h38o0 N0 m x true 0 0 0) (rk38o0 N0)) := by kernel_rfl
  rw [h]
  unfold law38
  simp only [decide_self, decide_true, Nat.zero_add, Bool.and_true, Bool.true_and, cond_true, leq38o0, rest38o0o0]
noncomputable def fn38 := law38 (10 ^ 30)
theorem acts38 : Acts Tryz.prog 38 (MSh) [.sl (.int .i64)] [.int .i64] fn38 := (Acts.of_code mixed (fn := Tryz.f38) (c := c38) Tryz.func38 (by kernel_rfl) (by kernel_rfl) env38 200 (L38_fit _) (by kernel_rfl) (by kernel_rfl)).to (eq38 _)
noncomputable def s38 : Summ Tryz.prog := acts38.summ (by kernel_rfl)
noncomputable def c99 : Code := (Tryz.f99.body.getD .skip)
noncomputable def env99 : Env Tryz.prog := ⟨[], none⟩
noncomputable def law99 (x : (Int × Unit)) : Option ((Int × Unit)) := some ((Int.tmod x.fst 4294967296, ()))
theorem eq99 (x : Sh.Ts [Sh.int u64]) : codeLaw Tryz.prog env99 200 [] Tryz.f99 c99 [.int .u64] [.int .u64] x = law99 x := by kernel_rfl
noncomputable def fn99 := law99
theorem reads99 : Reads Tryz.prog 99 [.int .u64] [.int .u64] fn99 := (Reads.of_code mixed (fn := Tryz.f99) (c := c99) Tryz.func99 (by kernel_rfl) (by kernel_rfl) env99 200 Loops.fit_nil (by kernel_rfl)).to (eq99)
noncomputable def s99 : Summ Tryz.prog := reads99.summ
def anys101 : Nat → List AV → List AV
  | 0, l => l
  | n + 1, l => AV.any :: anys101 n l
abbrev z101o0 (a : Int) : Int := (u64.wrap (u64.wrap ((u64.wrap (Int.tmod a 4294967296 * Int.tmod a 4294967296)).tdiv 4294967296) + u64.wrap ((u64.wrap (0 + (u64.wrap (Int.tmod a 4294967296 * Int.tmod a 4294967296)).tmod 4294967296)).tdiv 4294967296)))
abbrev z101o1 (a b : Int) : Int := (u64.wrap ((u64.wrap (Int.tmod a 4294967296 * u64.wrap (Int.tdiv a 4294967296))).tdiv 4294967296) + u64.wrap ((u64.wrap (b + (u64.wrap (Int.tmod a 4294967296 * u64.wrap (Int.tdiv a 4294967296))).tmod 4294967296)).tdiv 4294967296))
abbrev z101o2 (a b : Int) : Int := (u64.wrap ((u64.wrap (u64.wrap (Int.tdiv a 4294967296) * Int.tmod a 4294967296)).tdiv 4294967296) + u64.wrap ((u64.wrap (b + (u64.wrap (u64.wrap (Int.tdiv a 4294967296) * Int.tmod a 4294967296)).tmod 4294967296)).tdiv 4294967296))
abbrev z101o3 (a : Int) : Int := (u64.wrap (u64.wrap ((z101o0 a).tdiv 4294967296) + u64.wrap ((u64.wrap (0 + (z101o0 a).tmod 4294967296)).tdiv 4294967296)))
abbrev z101o4 (a b : Int) : Int := (u64.wrap ((u64.wrap (u64.wrap (Int.tdiv a 4294967296) * u64.wrap (Int.tdiv a 4294967296))).tdiv 4294967296) + u64.wrap ((u64.wrap (b + (u64.wrap (u64.wrap (Int.tdiv a 4294967296) * u64.wrap (Int.tdiv a 4294967296))).tmod 4294967296)).tdiv 4294967296))
abbrev z101o5 (a : Int) : Int := (u64.wrap (0 + (u64.wrap (Int.tmod a 4294967296 * Int.tmod a 4294967296)).tmod 4294967296))
abbrev z101o6 (a b c : Int) : Int := (u64.wrap ((u64.wrap (z101o2 a b)).tdiv 4294967296) + u64.wrap ((u64.wrap (c + (u64.wrap (z101o2 a b)).tmod 4294967296)).tdiv 4294967296))
abbrev z101o7 (a b c : Int) : Int := (u64.wrap ((u64.wrap (z101o1 a b)).tdiv 4294967296) + u64.wrap ((u64.wrap (c + (u64.wrap (z101o1 a b)).tmod 4294967296)).tdiv 4294967296))
abbrev z101o8 (a b : Int) : Int := (u64.wrap (a + (u64.wrap (Int.tmod b 4294967296 * u64.wrap (Int.tdiv b 4294967296))).tmod 4294967296))
abbrev z101o9 (a b : Int) : Int := (u64.wrap (a + (u64.wrap (u64.wrap (Int.tdiv b 4294967296) * Int.tmod b 4294967296)).tmod 4294967296))
abbrev z101o10 (a : Int) : Int := (u64.wrap ((z101o3 a).tdiv 4294967296) + u64.wrap ((u64.wrap (0 + (z101o3 a).tmod 4294967296)).tdiv 4294967296))
abbrev z101o11 (a : Int) : Int := (u64.wrap (Int.tdiv a 4294967296))
abbrev z101o12 (a b : Int) : Int := (u64.wrap (a + (u64.wrap (u64.wrap (Int.tdiv b 4294967296) * u64.wrap (Int.tdiv b 4294967296))).tmod 4294967296))
abbrev z101o13 (a : Int) : Int := (u64.wrap (0 + (z101o0 a).tmod 4294967296))
abbrev z101o14 (a b c : Int) : Int := (u64.wrap (a + (u64.wrap (z101o1 b c)).tmod 4294967296))
abbrev z101o15 (a b c : Int) : Int := (u64.wrap (a + (u64.wrap (z101o2 b c)).tmod 4294967296))
abbrev z101o16 (a : Int) : Int := (u64.wrap (0 + (z101o3 a).tmod 4294967296))
noncomputable def c101 : Code := (Tryz.f101.body.getD .skip)
noncomputable def env101 : Env Tryz.prog := ⟨[s99], none⟩
noncomputable def b101o2 : Code := ((kid ((subAt c101 [0, 1, 1, 0, 0, 1, 0, 0, 1, 0, 0, 1, 0, 0, 1, 0, 1, 1, 1]).getD .skip) 0).getD .skip)
noncomputable def kx101o2 : Exit → List Nat | .ret => [2] | .exit 0 => [2, 4] | .exit 1 => [2, 3, 4, 5] | .exit 2 => [2, 3, 4, 5] | .exit 3 => [2, 3, 4, 5, 6] | .exit 4 => [2, 3, 4, 5, 6] | _ => []
noncomputable def b101o1 : Code := ((kid ((subAt c101 [0, 1, 0, 0, 1, 0, 0, 1, 0, 1, 1, 1]).getD .skip) 0).getD .skip)
noncomputable def kx101o1 : Exit → List Nat | .ret => [2] | .exit 0 => [2, 4] | .exit 1 => [2, 3, 4, 5] | .exit 2 => [2, 3, 4, 5] | _ => []
noncomputable def b101o0 : Code := ((kid ((subAt c101 [0, 1, 0, 1, 1, 1]).getD .skip) 0).getD .skip)
noncomputable def kx101o0 : Exit → List Nat | .ret => [2] | .exit 0 => [2, 4] | _ => []
noncomputable def Li101o2 (N0 N1 N2 : Nat) : Loops Tryz.prog := []
noncomputable def ls101o2 (N0 N1 N2 : Nat) : LSumm Tryz.prog := loopSumm mixed env101 200 (Li101o2 N0 N1 N2) b101o2 (Loops.fit_nil) [2, 3, 4, 5, 6, 7, 8] kx101o2 (N2)
noncomputable def ln101o2 {β : Type} (N0 N1 N2 : Nat) (n : Nat) (t : List AV) (h : Heap) (K : Exit → List AV → Heap → Option β) : Option β := loopN Tryz.prog env101 (Sh.nes [.int .u64]) 200 (Li101o2 N0 N1 N2) b101o2 [2, 3, 4, 5, 6, 7, 8] kx101o2 n t h K
noncomputable def Li101o1 (N0 N1 N2 : Nat) : Loops Tryz.prog := [([0, 1, 1, 0, 0, 1], ls101o2 N0 N1 N2)]
noncomputable def ls101o1 (N0 N1 N2 : Nat) : LSumm Tryz.prog := loopSumm mixed env101 200 (Li101o1 N0 N1 N2) b101o1 (Loops.fit_cons (by kernel_rfl) (Loops.fit_nil)) [2, 3, 4, 5, 6] kx101o1 (N1)
noncomputable def ln101o1 {β : Type} (N0 N1 N2 : Nat) (n : Nat) (t : List AV) (h : Heap) (K : Exit → List AV → Heap → Option β) : Option β := loopN Tryz.prog env101 (Sh.nes [.int .u64]) 200 (Li101o1 N0 N1 N2) b101o1 [2, 3, 4, 5, 6] kx101o1 n t h K
noncomputable def Li101o0 (N0 N1 N2 : Nat) : Loops Tryz.prog := [([0, 1, 0, 0, 1], ls101o1 N0 N1 N2)]
noncomputable def ls101o0 (N0 N1 N2 : Nat) : LSumm Tryz.prog := loopSumm mixed env101 200 (Li101o0 N0 N1 N2) b101o0 (Loops.fit_cons (by kernel_rfl) (Loops.fit_nil)) [2, 3, 4, 5] kx101o0 (N0)
noncomputable def ln101o0 {β : Type} (N0 N1 N2 : Nat) (n : Nat) (t : List AV) (h : Heap) (K : Exit → List AV → Heap → Option β) : Option β := loopN Tryz.prog env101 (Sh.nes [.int .u64]) 200 (Li101o0 N0 N1 N2) b101o0 [2, 3, 4, 5] kx101o0 n t h K
noncomputable def L101 (N0 N1 N2 : Nat) : Loops Tryz.prog := [([0, 1, 0, 1, 1, 1], ls101o0 N0 N1 N2)]
theorem L101_fit (N0 N1 N2 : Nat) : (L101 N0 N1 N2).fit c101 := Loops.fit_cons (by kernel_rfl) (Loops.fit_nil)
noncomputable def K101 : Exit → List AV → Heap → Option (Sh.Ts [.st [.int .u64, .int .u64, .int .u64, .int .u64]]) := fun e t h => outK (P := Tryz.prog) Tryz.f101 [.st [.int .u64, .int .u64, .int .u64, .int .u64]] e t h
noncomputable def rk101o0 (N0 N1 N2 : Nat) : Exit → List AV → Heap → Option (Sh.Ts [.st [.int .u64, .int .u64, .int .u64, .int .u64]]) := (blkK 0 (seqK Tryz.prog env101 (Sh.nes [.int .u64]) 196 (L101 N0 N1 N2) [1, 1, 1, 1] ((subAt c101 [1, 1, 1, 1]).getD .skip) K101))
noncomputable def rk101o1 {β : Type} (N0 N1 N2 : Nat) (n : Nat) (K : Exit → List AV → Heap → Option β) : Exit → List AV → Heap → Option β := (blkK 2 (blkK 1 (seqK Tryz.prog env101 (Sh.nes [.int .u64]) 198 (Li101o0 N0 N1 N2) [1, 1] ((subAt b101o0 [1, 1]).getD .skip) (roundEnd (Sh.nes [.int .u64]) [2, 3, 4, 5] kx101o0 (fun t2 h2 => ln101o0 N0 N1 N2 n t2 h2 K) K))))
noncomputable def rk101o2 {β : Type} (N0 N1 N2 : Nat) (n : Nat) (K : Exit → List AV → Heap → Option β) : Exit → List AV → Heap → Option β := (blkK 4 (blkK 3 (seqK Tryz.prog env101 (Sh.nes [.int .u64]) 198 (Li101o1 N0 N1 N2) [1, 1] ((subAt b101o1 [1, 1]).getD .skip) (roundEnd (Sh.nes [.int .u64]) [2, 3, 4, 5, 6] kx101o1 (fun t2 h2 => ln101o1 N0 N1 N2 n t2 h2 K) K))))
noncomputable def t101o2 (N0 N1 N2 : Nat) (x : Sh.Ts [Sh.int u64]) : List AV := [AV.any, AV.any, AV.ptr 0 0, AV.ptr 1 0, AV.ptr 2 0, vI 0, vI 0, vU (u64.wrap (Int.tmod x.fst 4294967296 * Int.tmod x.fst 4294967296)), vI (i64.wrap (0 + 0))] ++ anys101 48 []
noncomputable def h101o2 (N0 N1 N2 : Nat) (x : Sh.Ts [Sh.int u64]) : Heap := [eL [vU 0, vU 0, vU 0, vU 0], eL [vU (Int.tmod x.fst 4294967296), vU (z101o11 x.fst)], eL [vU 0, vU 0, vU 0, vU 0]]
noncomputable def t101o2o91 (N0 N1 N2 : Nat) (x : Sh.Ts [Sh.int u64]) : List AV := [AV.any, AV.any, AV.ptr 0 0, AV.ptr 1 0, AV.ptr 2 0, vI 0, vI 0, vU (z101o0 x.fst), vI (i64.wrap (i64.wrap (0 + 0) + 1))] ++ anys101 48 []
noncomputable def h101o2o91 (N0 N1 N2 : Nat) (x : Sh.Ts [Sh.int u64]) : Heap := [eL [vU 0, vU 0, vU 0, vU 0], eL [vU (Int.tmod x.fst 4294967296), vU (z101o11 x.fst)], eL [vU ((z101o5 x.fst).tmod 4294967296), vU 0, vU 0, vU 0]]
noncomputable def t101o2o92 (N0 N1 N2 : Nat) (x : Sh.Ts [Sh.int u64]) : List AV := [AV.any, AV.any, AV.ptr 0 0, AV.ptr 1 0, AV.ptr 2 0, vI 0, vI 0, vU (z101o3 x.fst), vI (i64.wrap (i64.wrap (i64.wrap (0 + 0) + 1) + 1))] ++ anys101 48 []
noncomputable def h101o2o92 (N0 N1 N2 : Nat) (x : Sh.Ts [Sh.int u64]) : Heap := [eL [vU 0, vU 0, vU 0, vU 0], eL [vU (Int.tmod x.fst 4294967296), vU (z101o11 x.fst)], eL [vU ((z101o5 x.fst).tmod 4294967296), vU ((z101o13 x.fst).tmod 4294967296), vU 0, vU 0]]
noncomputable def t101o2o93 (N0 N1 N2 : Nat) (x : Sh.Ts [Sh.int u64]) : List AV := [AV.any, AV.any, AV.ptr 0 0, AV.ptr 1 0, AV.ptr 2 0, vI 0, vI 0, vU (u64.wrap (z101o10 x.fst)), vI (i64.wrap (i64.wrap (i64.wrap (i64.wrap (0 + 0) + 1) + 1) + 1))] ++ anys101 48 []
noncomputable def h101o2o93 (N0 N1 N2 : Nat) (x : Sh.Ts [Sh.int u64]) : Heap := [eL [vU 0, vU 0, vU 0, vU 0], eL [vU (Int.tmod x.fst 4294967296), vU (z101o11 x.fst)], eL [vU ((z101o5 x.fst).tmod 4294967296), vU ((z101o13 x.fst).tmod 4294967296), vU ((z101o16 x.fst).tmod 4294967296), vU 0]]
noncomputable def t101o2o94 (N0 N1 N2 : Nat) (x : Sh.Ts [Sh.int u64]) : List AV := [AV.any, AV.any, AV.ptr 0 0, AV.ptr 1 0, AV.ptr 2 0, vI 0, vI 0, vU (u64.wrap (u64.wrap ((u64.wrap (z101o10 x.fst)).tdiv 4294967296) + u64.wrap ((u64.wrap (0 + (u64.wrap (z101o10 x.fst)).tmod 4294967296)).tdiv 4294967296))), vI (i64.wrap (i64.wrap (i64.wrap (i64.wrap (i64.wrap (0 + 0) + 1) + 1) + 1) + 1))] ++ anys101 48 []
noncomputable def h101o2o94 (N0 N1 N2 : Nat) (x : Sh.Ts [Sh.int u64]) : Heap := [eL [vU 0, vU 0, vU 0, vU 0], eL [vU (Int.tmod x.fst 4294967296), vU (z101o11 x.fst)], eL [vU ((z101o5 x.fst).tmod 4294967296), vU ((z101o13 x.fst).tmod 4294967296), vU ((z101o16 x.fst).tmod 4294967296), vU ((u64.wrap (0 + (u64.wrap (z101o10 x.fst)).tmod 4294967296)).tmod 4294967296)]]
noncomputable def tx101o2o0 (N0 N1 N2 : Nat) (x : Sh.Ts [Sh.int u64]) (w0 w1 w2 w3 : Int) : List AV := [AV.any, AV.any, AV.ptr 0 0, AV.ptr 1 0, AV.ptr 2 0, vI 0, vI 0] ++ anys101 50 []
noncomputable def hx101o2o0 (N0 N1 N2 : Nat) (x : Sh.Ts [Sh.int u64]) (w0 w1 w2 w3 : Int) : Heap := [eL [vU 0, vU 0, vU 0, vU 0], eL [vU (Int.tmod x.fst 4294967296), vU (z101o11 x.fst)], eL [vU w0, vU w1, vU w2, vU w3]]
noncomputable def law101o2o94 {β : Type} (N0 N1 N2 : Nat) (x : (Int × Unit)) (k0 : Int → Int → Int → Int → Option β) : Nat → Option β
  | 0 => none
  | n + 1 => k0 ((z101o5 x.fst).tmod 4294967296) ((z101o13 x.fst).tmod 4294967296) ((z101o16 x.fst).tmod 4294967296) ((u64.wrap (0 + (u64.wrap (z101o10 x.fst)).tmod 4294967296)).tmod 4294967296)
theorem leq101o2o94 {β : Type} (N0 N1 N2 : Nat) (x : Sh.Ts [Sh.int u64]) (K : Exit → List AV → Heap → Option β) : ∀ (n : Nat), ln101o2 N0 N1 N2 n (t101o2o94 N0 N1 N2 x) (h101o2o94 N0 N1 N2 x) K = law101o2o94 N0 N1 N2 x (fun w0 w1 w2 w3 => K (Exit.exit 4) (tx101o2o0 N0 N1 N2 x w0 w1 w2 w3) (hx101o2o0 N0 N1 N2 x w0 w1 w2 w3)) n
  | 0 => rfl
  | n + 1 => by
    have h : ln101o2 N0 N1 N2 (n + 1) (t101o2o94 N0 N1 N2 x) (h101o2o94 N0 N1 N2 x) K = K (Exit.exit 4) (tx101o2o0 N0 N1 N2 x ((z101o5 x.fst).tmod 4294967296) ((z101o13 x.fst).tmod 4294967296) ((z101o16 x.fst).tmod 4294967296) ((u64.wrap (0 + (u64.wrap (z101o10 x.fst)).tmod 4294967296)).tmod 4294967296)) (hx101o2o0 N0 N1 N2 x ((z101o5 x.fst).tmod 4294967296) ((z101o13 x.fst).tmod 4294967296) ((z101o16 x.fst).tmod 4294967296) ((u64.wrap (0 + (u64.wrap (z101o10 x.fst)).tmod 4294967296)).tmod 4294967296)) := by kernel_rfl
    rw [h]
    simp only [decide_self, decide_true, Nat.zero_add, Bool.and_true, Bool.true_and, cond_true, law101o2o94]
noncomputable def law101o2o93 {β : Type} (N0 N1 N2 : Nat) (x : (Int × Unit)) (k0 : Int → Int → Int → Int → Option β) : Nat → Option β
  | 0 => none
  | n + 1 => (bif decide (u64.wrap (z101o10 x.fst) > 0) then law101o2o94 N0 N1 N2 x k0 n else k0 ((z101o5 x.fst).tmod 4294967296) ((z101o13 x.fst).tmod 4294967296) ((z101o16 x.fst).tmod 4294967296) 0)
theorem leq101o2o93 {β : Type} (N0 N1 N2 : Nat) (x : Sh.Ts [Sh.int u64]) (K : Exit → List AV → Heap → Option β) : ∀ (n : Nat), ln101o2 N0 N1 N2 n (t101o2o93 N0 N1 N2 x) (h101o2o93 N0 N1 N2 x) K = law101o2o93 N0 N1 N2 x (fun w0 w1 w2 w3 => K (Exit.exit 4) (tx101o2o0 N0 N1 N2 x w0 w1 w2 w3) (hx101o2o0 N0 N1 N2 x w0 w1 w2 w3)) n
  | 0 => rfl
  | n + 1 => by
    have h : ln101o2 N0 N1 N2 (n + 1) (t101o2o93 N0 N1 N2 x) (h101o2o93 N0 N1 N2 x) K = (bif decide (u64.wrap (z101o10 x.fst) > 0) then ln101o2 N0 N1 N2 n (t101o2o94 N0 N1 N2 x) (h101o2o94 N0 N1 N2 x) K else K (Exit.exit 4) (tx101o2o0 N0 N1 N2 x ((z101o5 x.fst).tmod 4294967296) ((z101o13 x.fst).tmod 4294967296) ((z101o16 x.fst).tmod 4294967296) 0) (hx101o2o0 N0 N1 N2 x ((z101o5 x.fst).tmod 4294967296) ((z101o13 x.fst).tmod 4294967296) ((z101o16 x.fst).tmod 4294967296) 0)) := by kernel_rfl
    rw [h]
    simp only [decide_self, decide_true, Nat.zero_add, Bool.and_true, Bool.true_and, cond_true, law101o2o93, leq101o2o94 N0 N1 N2 x K n]
noncomputable def law101o2o92 {β : Type} (N0 N1 N2 : Nat) (x : (Int × Unit)) (k0 : Int → Int → Int → Int → Option β) : Nat → Option β
  | 0 => none
  | n + 1 => (bif decide (u64.wrap (u64.wrap ((z101o0 x.fst).tdiv 4294967296) + u64.wrap ((z101o13 x.fst).tdiv 4294967296)) > 0) then law101o2o93 N0 N1 N2 x k0 n else k0 ((z101o5 x.fst).tmod 4294967296) ((z101o13 x.fst).tmod 4294967296) 0 0)
theorem leq101o2o92 {β : Type} (N0 N1 N2 : Nat) (x : Sh.Ts [Sh.int u64]) (K : Exit → List AV → Heap → Option β) : ∀ (n : Nat), ln101o2 N0 N1 N2 n (t101o2o92 N0 N1 N2 x) (h101o2o92 N0 N1 N2 x) K = law101o2o92 N0 N1 N2 x (fun w0 w1 w2 w3 => K (Exit.exit 4) (tx101o2o0 N0 N1 N2 x w0 w1 w2 w3) (hx101o2o0 N0 N1 N2 x w0 w1 w2 w3)) n
  | 0 => rfl
  | n + 1 => by
    have h : ln101o2 N0 N1 N2 (n + 1) (t101o2o92 N0 N1 N2 x) (h101o2o92 N0 N1 N2 x) K = (bif decide (u64.wrap (u64.wrap ((z101o0 x.fst).tdiv 4294967296) + u64.wrap ((z101o13 x.fst).tdiv 4294967296)) > 0) then ln101o2 N0 N1 N2 n (t101o2o93 N0 N1 N2 x) (h101o2o93 N0 N1 N2 x) K else K (Exit.exit 4) (tx101o2o0 N0 N1 N2 x ((z101o5 x.fst).tmod 4294967296) ((z101o13 x.fst).tmod 4294967296) 0 0) (hx101o2o0 N0 N1 N2 x ((z101o5 x.fst).tmod 4294967296) ((z101o13 x.fst).tmod 4294967296) 0 0)) := by kernel_rfl
    rw [h]
    simp only [decide_self, decide_true, Nat.zero_add, Bool.and_true, Bool.true_and, cond_true, law101o2o92, leq101o2o93 N0 N1 N2 x K n]
noncomputable def law101o2o91 {β : Type} (N0 N1 N2 : Nat) (x : (Int × Unit)) (k0 : Int → Int → Int → Int → Option β) : Nat → Option β
  | 0 => none
  | n + 1 => (bif decide (u64.wrap (u64.wrap ((u64.wrap (Int.tmod x.fst 4294967296 * Int.tmod x.fst 4294967296)).tdiv 4294967296) + u64.wrap ((z101o5 x.fst).tdiv 4294967296)) > 0) then law101o2o92 N0 N1 N2 x k0 n else k0 ((z101o5 x.fst).tmod 4294967296) 0 0 0)
theorem leq101o2o91 {β : Type} (N0 N1 N2 : Nat) (x : Sh.Ts [Sh.int u64]) (K : Exit → List AV → Heap → Option β) : ∀ (n : Nat), ln101o2 N0 N1 N2 n (t101o2o91 N0 N1 N2 x) (h101o2o91 N0 N1 N2 x) K = law101o2o91 N0 N1 N2 x (fun w0 w1 w2 w3 => K (Exit.exit 4) (tx101o2o0 N0 N1 N2 x w0 w1 w2 w3) (hx101o2o0 N0 N1 N2 x w0 w1 w2 w3)) n
  | 0 => rfl
  | n + 1 => by
    have h : ln101o2 N0 N1 N2 (n + 1) (t101o2o91 N0 N1 N2 x) (h101o2o91 N0 N1 N2 x) K = (bif decide (u64.wrap (u64.wrap ((u64.wrap (Int.tmod x.fst 4294967296 * Int.tmod x.fst 4294967296)).tdiv 4294967296) + u64.wrap ((z101o5 x.fst).tdiv 4294967296)) > 0) then ln101o2 N0 N1 N2 n (t101o2o92 N0 N1 N2 x) (h101o2o92 N0 N1 N2 x) K else K (Exit.exit 4) (tx101o2o0 N0 N1 N2 x ((z101o5 x.fst).tmod 4294967296) 0 0 0) (hx101o2o0 N0 N1 N2 x ((z101o5 x.fst).tmod 4294967296) 0 0 0)) := by kernel_rfl
    rw [h]
    simp only [decide_self, decide_true, Nat.zero_add, Bool.and_true, Bool.true_and, cond_true, law101o2o91, leq101o2o92 N0 N1 N2 x K n]
noncomputable def law101o2 {β : Type} (N0 N1 N2 : Nat) (x : (Int × Unit)) (k0 : Int → Int → Int → Int → Option β) : Nat → Option β
  | 0 => none
  | n + 1 => (bif decide (u64.wrap (Int.tmod x.fst 4294967296 * Int.tmod x.fst 4294967296) > 0) then law101o2o91 N0 N1 N2 x k0 n else k0 0 0 0 0)
theorem leq101o2 {β : Type} (N0 N1 N2 : Nat) (x : Sh.Ts [Sh.int u64]) (K : Exit → List AV → Heap → Option β) : ∀ (n : Nat), ln101o2 N0 N1 N2 n (t101o2 N0 N1 N2 x) (h101o2 N0 N1 N2 x) K = law101o2 N0 N1 N2 x (fun w0 w1 w2 w3 => K (Exit.exit 4) (tx101o2o0 N0 N1 N2 x w0 w1 w2 w3) (hx101o2o0 N0 N1 N2 x w0 w1 w2 w3)) n
  | 0 => rfl
  | n + 1 => by
    have h : ln101o2 N0 N1 N2 (n + 1) (t101o2 N0 N1 N2 x) (h101o2 N0 N1 N2 x) K = (bif decide (u64.wrap (Int.tmod x.fst 4294967296 * Int.tmod x.fst 4294967296) > 0) then ln101o2 N0 N1 N2 n (t101o2o91 N0 N1 N2 x) (h101o2o91 N0 N1 N2 x) K else K (Exit.exit 4) (tx101o2o0 N0 N1 N2 x 0 0 0 0) (hx101o2o0 N0 N1 N2 x 0 0 0 0)) := by kernel_rfl
    rw [h]
    simp only [decide_self, decide_true, Nat.zero_add, Bool.and_true, Bool.true_and, cond_true, law101o2, leq101o2o91 N0 N1 N2 x K n]
noncomputable def t101o2o1 (N0 N1 N2 : Nat) (x : Sh.Ts [Sh.int u64]) (w4 w5 w6 w7 : Int) : List AV := [AV.any, AV.any, AV.ptr 0 0, AV.ptr 1 0, AV.ptr 2 0, vI 0, vI (i64.wrap (0 + 1)), vU (u64.wrap (Int.tmod x.fst 4294967296 * u64.wrap (Int.tdiv x.fst 4294967296))), vI (i64.wrap (0 + i64.wrap (0 + 1)))] ++ anys101 48 []
noncomputable def h101o2o1 (N0 N1 N2 : Nat) (x : Sh.Ts [Sh.int u64]) (w4 w5 w6 w7 : Int) : Heap := [eL [vU 0, vU 0, vU 0, vU 0], eL [vU (Int.tmod x.fst 4294967296), vU (z101o11 x.fst)], eL [vU w4, vU w5, vU w6, vU w7]]
noncomputable def t101o2o1o91 (N0 N1 N2 : Nat) (x : Sh.Ts [Sh.int u64]) (w4 w5 w6 w7 : Int) : List AV := [AV.any, AV.any, AV.ptr 0 0, AV.ptr 1 0, AV.ptr 2 0, vI 0, vI (i64.wrap (0 + 1)), vU (u64.wrap (z101o1 x.fst w5)), vI (i64.wrap (i64.wrap (0 + i64.wrap (0 + 1)) + 1))] ++ anys101 48 []
noncomputable def h101o2o1o91 (N0 N1 N2 : Nat) (x : Sh.Ts [Sh.int u64]) (w4 w5 w6 w7 : Int) : Heap := [eL [vU 0, vU 0, vU 0, vU 0], eL [vU (Int.tmod x.fst 4294967296), vU (z101o11 x.fst)], eL [vU w4, vU ((z101o8 w5 x.fst).tmod 4294967296), vU w6, vU w7]]
noncomputable def t101o2o1o92 (N0 N1 N2 : Nat) (x : Sh.Ts [Sh.int u64]) (w4 w5 w6 w7 : Int) : List AV := [AV.any, AV.any, AV.ptr 0 0, AV.ptr 1 0, AV.ptr 2 0, vI 0, vI (i64.wrap (0 + 1)), vU (u64.wrap (z101o7 x.fst w5 w6)), vI (i64.wrap (i64.wrap (i64.wrap (0 + i64.wrap (0 + 1)) + 1) + 1))] ++ anys101 48 []
noncomputable def h101o2o1o92 (N0 N1 N2 : Nat) (x : Sh.Ts [Sh.int u64]) (w4 w5 w6 w7 : Int) : Heap := [eL [vU 0, vU 0, vU 0, vU 0], eL [vU (Int.tmod x.fst 4294967296), vU (z101o11 x.fst)], eL [vU w4, vU ((z101o8 w5 x.fst).tmod 4294967296), vU ((z101o14 w6 x.fst w5).tmod 4294967296), vU w7]]
noncomputable def t101o2o1o93 (N0 N1 N2 : Nat) (x : Sh.Ts [Sh.int u64]) (w4 w5 w6 w7 : Int) : List AV := [AV.any, AV.any, AV.ptr 0 0, AV.ptr 1 0, AV.ptr 2 0, vI 0, vI (i64.wrap (0 + 1)), vU (u64.wrap (u64.wrap ((u64.wrap (z101o7 x.fst w5 w6)).tdiv 4294967296) + u64.wrap ((u64.wrap (w7 + (u64.wrap (z101o7 x.fst w5 w6)).tmod 4294967296)).tdiv 4294967296))), vI (i64.wrap (i64.wrap (i64.wrap (i64.wrap (0 + i64.wrap (0 + 1)) + 1) + 1) + 1))] ++ anys101 48 []
noncomputable def h101o2o1o93 (N0 N1 N2 : Nat) (x : Sh.Ts [Sh.int u64]) (w4 w5 w6 w7 : Int) : Heap := [eL [vU 0, vU 0, vU 0, vU 0], eL [vU (Int.tmod x.fst 4294967296), vU (z101o11 x.fst)], eL [vU w4, vU ((z101o8 w5 x.fst).tmod 4294967296), vU ((z101o14 w6 x.fst w5).tmod 4294967296), vU ((u64.wrap (w7 + (u64.wrap (z101o7 x.fst w5 w6)).tmod 4294967296)).tmod 4294967296)]]
noncomputable def tx101o2o1o0 (N0 N1 N2 : Nat) (x : Sh.Ts [Sh.int u64]) (w4 w5 w6 w7 w8 w9 w10 : Int) : List AV := [AV.any, AV.any, AV.ptr 0 0, AV.ptr 1 0, AV.ptr 2 0, vI 0, vI (i64.wrap (0 + 1))] ++ anys101 50 []
noncomputable def hx101o2o1o0 (N0 N1 N2 : Nat) (x : Sh.Ts [Sh.int u64]) (w4 w5 w6 w7 w8 w9 w10 : Int) : Heap := [eL [vU 0, vU 0, vU 0, vU 0], eL [vU (Int.tmod x.fst 4294967296), vU (z101o11 x.fst)], eL [vU w4, vU w8, vU w9, vU w10]]
noncomputable def law101o2o1o93 {β : Type} (N0 N1 N2 : Nat) (x : (Int × Unit)) (w4 w5 w6 w7 : Int) (k0 : Int → Int → Int → Option β) : Nat → Option β
  | 0 => none
  | n + 1 => k0 ((z101o8 w5 x.fst).tmod 4294967296) ((z101o14 w6 x.fst w5).tmod 4294967296) ((u64.wrap (w7 + (u64.wrap (z101o7 x.fst w5 w6)).tmod 4294967296)).tmod 4294967296)
theorem leq101o2o1o93 {β : Type} (N0 N1 N2 : Nat) (x : Sh.Ts [Sh.int u64]) (w4 w5 w6 w7 : Int) (K : Exit → List AV → Heap → Option β) : ∀ (n : Nat), ln101o2 N0 N1 N2 n (t101o2o1o93 N0 N1 N2 x w4 w5 w6 w7) (h101o2o1o93 N0 N1 N2 x w4 w5 w6 w7) K = law101o2o1o93 N0 N1 N2 x w4 w5 w6 w7 (fun w8 w9 w10 => K (Exit.exit 4) (tx101o2o1o0 N0 N1 N2 x w4 w5 w6 w7 w8 w9 w10) (hx101o2o1o0 N0 N1 N2 x w4 w5 w6 w7 w8 w9 w10)) n
  | 0 => rfl
  | n + 1 => by
    have h : ln101o2 N0 N1 N2 (n + 1) (t101o2o1o93 N0 N1 N2 x w4 w5 w6 w7) (h101o2o1o93 N0 N1 N2 x w4 w5 w6 w7) K = K (Exit.exit 4) (tx101o2o1o0 N0 N1 N2 x w4 w5 w6 w7 ((z101o8 w5 x.fst).tmod 4294967296) ((z101o14 w6 x.fst w5).tmod 4294967296) ((u64.wrap (w7 + (u64.wrap (z101o7 x.fst w5 w6)).tmod 4294967296)).tmod 4294967296)) (hx101o2o1o0 N0 N1 N2 x w4 w5 w6 w7 ((z101o8 w5 x.fst).tmod 4294967296) ((z101o14 w6 x.fst w5).tmod 4294967296) ((u64.wrap (w7 + (u64.wrap (z101o7 x.fst w5 w6)).tmod 4294967296)).tmod 4294967296)) := by kernel_rfl
    rw [h]
    simp only [decide_self, decide_true, Nat.zero_add, Bool.and_true, Bool.true_and, cond_true, law101o2o1o93, leq101o2]
noncomputable def law101o2o1o92 {β : Type} (N0 N1 N2 : Nat) (x : (Int × Unit)) (w4 w5 w6 w7 : Int) (k0 : Int → Int → Int → Option β) : Nat → Option β
  | 0 => none
  | n + 1 => (bif decide (u64.wrap (z101o7 x.fst w5 w6) > 0) then law101o2o1o93 N0 N1 N2 x w4 w5 w6 w7 k0 n else k0 ((z101o8 w5 x.fst).tmod 4294967296) ((z101o14 w6 x.fst w5).tmod 4294967296) w7)
theorem leq101o2o1o92 {β : Type} (N0 N1 N2 : Nat) (x : Sh.Ts [Sh.int u64]) (w4 w5 w6 w7 : Int) (K : Exit → List AV → Heap → Option β) : ∀ (n : Nat), ln101o2 N0 N1 N2 n (t101o2o1o92 N0 N1 N2 x w4 w5 w6 w7) (h101o2o1o92 N0 N1 N2 x w4 w5 w6 w7) K = law101o2o1o92 N0 N1 N2 x w4 w5 w6 w7 (fun w8 w9 w10 => K (Exit.exit 4) (tx101o2o1o0 N0 N1 N2 x w4 w5 w6 w7 w8 w9 w10) (hx101o2o1o0 N0 N1 N2 x w4 w5 w6 w7 w8 w9 w10)) n
  | 0 => rfl
  | n + 1 => by
    have h : ln101o2 N0 N1 N2 (n + 1) (t101o2o1o92 N0 N1 N2 x w4 w5 w6 w7) (h101o2o1o92 N0 N1 N2 x w4 w5 w6 w7) K = (bif decide (u64.wrap (z101o7 x.fst w5 w6) > 0) then ln101o2 N0 N1 N2 n (t101o2o1o93 N0 N1 N2 x w4 w5 w6 w7) (h101o2o1o93 N0 N1 N2 x w4 w5 w6 w7) K else K (Exit.exit 4) (tx101o2o1o0 N0 N1 N2 x w4 w5 w6 w7 ((z101o8 w5 x.fst).tmod 4294967296) ((z101o14 w6 x.fst w5).tmod 4294967296) w7) (hx101o2o1o0 N0 N1 N2 x w4 w5 w6 w7 ((z101o8 w5 x.fst).tmod 4294967296) ((z101o14 w6 x.fst w5).tmod 4294967296) w7)) := by kernel_rfl
    rw [h]
    simp only [decide_self, decide_true, Nat.zero_add, Bool.and_true, Bool.true_and, cond_true, law101o2o1o92, leq101o2o1o93 N0 N1 N2 x w4 w5 w6 w7 K n, leq101o2]
noncomputable def law101o2o1o91 {β : Type} (N0 N1 N2 : Nat) (x : (Int × Unit)) (w4 w5 w6 w7 : Int) (k0 : Int → Int → Int → Option β) : Nat → Option β
  | 0 => none
  | n + 1 => (bif decide (u64.wrap (z101o1 x.fst w5) > 0) then law101o2o1o92 N0 N1 N2 x w4 w5 w6 w7 k0 n else k0 ((z101o8 w5 x.fst).tmod 4294967296) w6 w7)
theorem leq101o2o1o91 {β : Type} (N0 N1 N2 : Nat) (x : Sh.Ts [Sh.int u64]) (w4 w5 w6 w7 : Int) (K : Exit → List AV → Heap → Option β) : ∀ (n : Nat), ln101o2 N0 N1 N2 n (t101o2o1o91 N0 N1 N2 x w4 w5 w6 w7) (h101o2o1o91 N0 N1 N2 x w4 w5 w6 w7) K = law101o2o1o91 N0 N1 N2 x w4 w5 w6 w7 (fun w8 w9 w10 => K (Exit.exit 4) (tx101o2o1o0 N0 N1 N2 x w4 w5 w6 w7 w8 w9 w10) (hx101o2o1o0 N0 N1 N2 x w4 w5 w6 w7 w8 w9 w10)) n
  | 0 => rfl
  | n + 1 => by
    have h : ln101o2 N0 N1 N2 (n + 1) (t101o2o1o91 N0 N1 N2 x w4 w5 w6 w7) (h101o2o1o91 N0 N1 N2 x w4 w5 w6 w7) K = (bif decide (u64.wrap (z101o1 x.fst w5) > 0) then ln101o2 N0 N1 N2 n (t101o2o1o92 N0 N1 N2 x w4 w5 w6 w7) (h101o2o1o92 N0 N1 N2 x w4 w5 w6 w7) K else K (Exit.exit 4) (tx101o2o1o0 N0 N1 N2 x w4 w5 w6 w7 ((z101o8 w5 x.fst).tmod 4294967296) w6 w7) (hx101o2o1o0 N0 N1 N2 x w4 w5 w6 w7 ((z101o8 w5 x.fst).tmod 4294967296) w6 w7)) := by kernel_rfl
    rw [h]
    simp only [decide_self, decide_true, Nat.zero_add, Bool.and_true, Bool.true_and, cond_true, law101o2o1o91, leq101o2o1o92 N0 N1 N2 x w4 w5 w6 w7 K n, leq101o2]
noncomputable def law101o2o1 {β : Type} (N0 N1 N2 : Nat) (x : (Int × Unit)) (w4 w5 w6 w7 : Int) (k0 : Int → Int → Int → Option β) : Nat → Option β
  | 0 => none
  | n + 1 => (bif decide (u64.wrap (Int.tmod x.fst 4294967296 * u64.wrap (Int.tdiv x.fst 4294967296)) > 0) then law101o2o1o91 N0 N1 N2 x w4 w5 w6 w7 k0 n else k0 w5 w6 w7)
theorem leq101o2o1 {β : Type} (N0 N1 N2 : Nat) (x : Sh.Ts [Sh.int u64]) (w4 w5 w6 w7 : Int) (K : Exit → List AV → Heap → Option β) : ∀ (n : Nat), ln101o2 N0 N1 N2 n (t101o2o1 N0 N1 N2 x w4 w5 w6 w7) (h101o2o1 N0 N1 N2 x w4 w5 w6 w7) K = law101o2o1 N0 N1 N2 x w4 w5 w6 w7 (fun w8 w9 w10 => K (Exit.exit 4) (tx101o2o1o0 N0 N1 N2 x w4 w5 w6 w7 w8 w9 w10) (hx101o2o1o0 N0 N1 N2 x w4 w5 w6 w7 w8 w9 w10)) n
  | 0 => rfl
  | n + 1 => by
    have h : ln101o2 N0 N1 N2 (n + 1) (t101o2o1 N0 N1 N2 x w4 w5 w6 w7) (h101o2o1 N0 N1 N2 x w4 w5 w6 w7) K = (bif decide (u64.wrap (Int.tmod x.fst 4294967296 * u64.wrap (Int.tdiv x.fst 4294967296)) > 0) then ln101o2 N0 N1 N2 n (t101o2o1o91 N0 N1 N2 x w4 w5 w6 w7) (h101o2o1o91 N0 N1 N2 x w4 w5 w6 w7) K else K (Exit.exit 4) (tx101o2o1o0 N0 N1 N2 x w4 w5 w6 w7 w5 w6 w7) (hx101o2o1o0 N0 N1 N2 x w4 w5 w6 w7 w5 w6 w7)) := by kernel_rfl
    rw [h]
    simp only [decide_self, decide_true, Nat.zero_add, Bool.and_true, Bool.true_and, cond_true, law101o2o1, leq101o2o1o91 N0 N1 N2 x w4 w5 w6 w7 K n, leq101o2]
noncomputable def t101o1o2 (N0 N1 N2 : Nat) (x : Sh.Ts [Sh.int u64]) : List AV := [AV.any, AV.any, AV.ptr 0 0, AV.ptr 1 0, AV.ptr 2 0, vI 0, vI 0] ++ anys101 50 []
noncomputable def h101o1o2 (N0 N1 N2 : Nat) (x : Sh.Ts [Sh.int u64]) : Heap := [eL [vU 0, vU 0, vU 0, vU 0], eL [vU (Int.tmod x.fst 4294967296), vU (z101o11 x.fst)], eL [vU 0, vU 0, vU 0, vU 0]]
noncomputable def t101o1o2o91 (N0 N1 N2 : Nat) (x : Sh.Ts [Sh.int u64]) (w4 w5 w6 w7 : Int) : List AV := [AV.any, AV.any, AV.ptr 0 0, AV.ptr 1 0, AV.ptr 2 0, vI 0, vI (i64.wrap (0 + 1))] ++ anys101 50 []
noncomputable def h101o1o2o91 (N0 N1 N2 : Nat) (x : Sh.Ts [Sh.int u64]) (w4 w5 w6 w7 : Int) : Heap := [eL [vU 0, vU 0, vU 0, vU 0], eL [vU (Int.tmod x.fst 4294967296), vU (z101o11 x.fst)], eL [vU w4, vU w5, vU w6, vU w7]]
noncomputable def t101o1o2o92 (N0 N1 N2 : Nat) (x : Sh.Ts [Sh.int u64]) (w4 w11 w12 w13 : Int) : List AV := [AV.any, AV.any, AV.ptr 0 0, AV.ptr 1 0, AV.ptr 2 0, vI 0, vI (i64.wrap (i64.wrap (0 + 1) + 1))] ++ anys101 50 []
noncomputable def h101o1o2o92 (N0 N1 N2 : Nat) (x : Sh.Ts [Sh.int u64]) (w4 w11 w12 w13 : Int) : Heap := [eL [vU 0, vU 0, vU 0, vU 0], eL [vU (Int.tmod x.fst 4294967296), vU (z101o11 x.fst)], eL [vU w4, vU w11, vU w12, vU w13]]
noncomputable def tx101o1o2o0 (N0 N1 N2 : Nat) (x : Sh.Ts [Sh.int u64]) (w14 w15 w16 w17 : Int) : List AV := [AV.any, AV.any, AV.ptr 0 0, AV.ptr 1 0, AV.ptr 2 0, vI 0] ++ anys101 51 []
noncomputable def hx101o1o2o0 (N0 N1 N2 : Nat) (x : Sh.Ts [Sh.int u64]) (w14 w15 w16 w17 : Int) : Heap := [eL [vU 0, vU 0, vU 0, vU 0], eL [vU (Int.tmod x.fst 4294967296), vU (z101o11 x.fst)], eL [vU w14, vU w15, vU w16, vU w17]]
noncomputable def law101o1o2o92 {β : Type} (N0 N1 N2 : Nat) (x : (Int × Unit)) (w4 w11 w12 w13 : Int) (k0 : Int → Int → Int → Int → Option β) : Nat → Option β
  | 0 => none
  | n + 1 => k0 w4 w11 w12 w13
theorem leq101o1o2o92 {β : Type} (N0 N1 N2 : Nat) (x : Sh.Ts [Sh.int u64]) (w4 w11 w12 w13 : Int) (K : Exit → List AV → Heap → Option β) : ∀ (n : Nat), ln101o1 N0 N1 N2 n (t101o1o2o92 N0 N1 N2 x w4 w11 w12 w13) (h101o1o2o92 N0 N1 N2 x w4 w11 w12 w13) K = law101o1o2o92 N0 N1 N2 x w4 w11 w12 w13 (fun w14 w15 w16 w17 => K (Exit.exit 2) (tx101o1o2o0 N0 N1 N2 x w14 w15 w16 w17) (hx101o1o2o0 N0 N1 N2 x w14 w15 w16 w17)) n
  | 0 => rfl
  | n + 1 => by
    have h : ln101o1 N0 N1 N2 (n + 1) (t101o1o2o92 N0 N1 N2 x w4 w11 w12 w13) (h101o1o2o92 N0 N1 N2 x w4 w11 w12 w13) K = K (Exit.exit 2) (tx101o1o2o0 N0 N1 N2 x w4 w11 w12 w13) (hx101o1o2o0 N0 N1 N2 x w4 w11 w12 w13) := by kernel_rfl
    rw [h]
    simp only [decide_self, decide_true, Nat.zero_add, Bool.and_true, Bool.true_and, cond_true, law101o1o2o92, leq101o2, leq101o2o1]
theorem rest101o2o1o0 {β : Type} (n : Nat) (K : Exit → List AV → Heap → Option β) (N0 N1 N2 : Nat) (x : Sh.Ts [Sh.int u64]) (w4 w5 w6 w7 w11 w12 w13 : Int) : rk101o2 N0 N1 N2 n K (Exit.exit 4) (tx101o2o1o0 N0 N1 N2 x w4 w5 w6 w7 w11 w12 w13) (hx101o2o1o0 N0 N1 N2 x w4 w5 w6 w7 w11 w12 w13) = ln101o1 N0 N1 N2 n (t101o1o2o92 N0 N1 N2 x w4 w11 w12 w13) (h101o1o2o92 N0 N1 N2 x w4 w11 w12 w13) K := by kernel_rfl
noncomputable def law101o1o2o91 {β : Type} (N0 N1 N2 : Nat) (x : (Int × Unit)) (w4 w5 w6 w7 : Int) (k0 : Int → Int → Int → Int → Option β) : Nat → Option β
  | 0 => none
  | n + 1 => (law101o2o1 N0 N1 N2 x w4 w5 w6 w7 (fun w11 w12 w13 => law101o1o2o92 N0 N1 N2 x w4 w11 w12 w13 k0 n) N2)
theorem leq101o1o2o91 {β : Type} (N0 N1 N2 : Nat) (x : Sh.Ts [Sh.int u64]) (w4 w5 w6 w7 : Int) (K : Exit → List AV → Heap → Option β) : ∀ (n : Nat), ln101o1 N0 N1 N2 n (t101o1o2o91 N0 N1 N2 x w4 w5 w6 w7) (h101o1o2o91 N0 N1 N2 x w4 w5 w6 w7) K = law101o1o2o91 N0 N1 N2 x w4 w5 w6 w7 (fun w14 w15 w16 w17 => K (Exit.exit 2) (tx101o1o2o0 N0 N1 N2 x w14 w15 w16 w17) (hx101o1o2o0 N0 N1 N2 x w14 w15 w16 w17)) n
  | 0 => rfl
  | n + 1 => by
    have h : ln101o1 N0 N1 N2 (n + 1) (t101o1o2o91 N0 N1 N2 x w4 w5 w6 w7) (h101o1o2o91 N0 N1 N2 x w4 w5 w6 w7) K = (ln101o2 N0 N1 N2 N2 (t101o2o1 N0 N1 N2 x w4 w5 w6 w7) (h101o2o1 N0 N1 N2 x w4 w5 w6 w7) (rk101o2 N0 N1 N2 n K)) := by kernel_rfl
    rw [h]
    simp only [decide_self, decide_true, Nat.zero_add, Bool.and_true, Bool.true_and, cond_true, law101o1o2o91, leq101o1o2o92, leq101o2, leq101o2o1, rest101o2o1o0]
theorem rest101o2o0 {β : Type} (n : Nat) (K : Exit → List AV → Heap → Option β) (N0 N1 N2 : Nat) (x : Sh.Ts [Sh.int u64]) (w4 w5 w6 w7 : Int) : rk101o2 N0 N1 N2 n K (Exit.exit 4) (tx101o2o0 N0 N1 N2 x w4 w5 w6 w7) (hx101o2o0 N0 N1 N2 x w4 w5 w6 w7) = ln101o1 N0 N1 N2 n (t101o1o2o91 N0 N1 N2 x w4 w5 w6 w7) (h101o1o2o91 N0 N1 N2 x w4 w5 w6 w7) K := by kernel_rfl
noncomputable def law101o1o2 {β : Type} (N0 N1 N2 : Nat) (x : (Int × Unit)) (k0 : Int → Int → Int → Int → Option β) : Nat → Option β
  | 0 => none
  | n + 1 => (law101o2 N0 N1 N2 x (fun w4 w5 w6 w7 => law101o1o2o91 N0 N1 N2 x w4 w5 w6 w7 k0 n) N2)
theorem leq101o1o2 {β : Type} (N0 N1 N2 : Nat) (x : Sh.Ts [Sh.int u64]) (K : Exit → List AV → Heap → Option β) : ∀ (n : Nat), ln101o1 N0 N1 N2 n (t101o1o2 N0 N1 N2 x) (h101o1o2 N0 N1 N2 x) K = law101o1o2 N0 N1 N2 x (fun w14 w15 w16 w17 => K (Exit.exit 2) (tx101o1o2o0 N0 N1 N2 x w14 w15 w16 w17) (hx101o1o2o0 N0 N1 N2 x w14 w15 w16 w17)) n
  | 0 => rfl
  | n + 1 => by
    have h : ln101o1 N0 N1 N2 (n + 1) (t101o1o2 N0 N1 N2 x) (h101o1o2 N0 N1 N2 x) K = (ln101o2 N0 N1 N2 N2 (t101o2 N0 N1 N2 x) (h101o2 N0 N1 N2 x) (rk101o2 N0 N1 N2 n K)) := by kernel_rfl
    rw [h]
    simp only [decide_self, decide_true, Nat.zero_add, Bool.and_true, Bool.true_and, cond_true, law101o1o2, leq101o1o2o91, leq101o2, leq101o2o1, rest101o2o1o0, rest101o2o0]
noncomputable def t101o2o3 (N0 N1 N2 : Nat) (x : Sh.Ts [Sh.int u64]) (w18 w19 w20 w21 : Int) : List AV := [AV.any, AV.any, AV.ptr 0 0, AV.ptr 1 0, AV.ptr 2 0, vI (i64.wrap (0 + 1)), vI 0, vU (u64.wrap (u64.wrap (Int.tdiv x.fst 4294967296) * Int.tmod x.fst 4294967296)), vI (i64.wrap (i64.wrap (0 + 1) + 0))] ++ anys101 48 []
noncomputable def h101o2o3 (N0 N1 N2 : Nat) (x : Sh.Ts [Sh.int u64]) (w18 w19 w20 w21 : Int) : Heap := [eL [vU 0, vU 0, vU 0, vU 0], eL [vU (Int.tmod x.fst 4294967296), vU (z101o11 x.fst)], eL [vU w18, vU w19, vU w20, vU w21]]
noncomputable def t101o2o3o91 (N0 N1 N2 : Nat) (x : Sh.Ts [Sh.int u64]) (w18 w19 w20 w21 : Int) : List AV := [AV.any, AV.any, AV.ptr 0 0, AV.ptr 1 0, AV.ptr 2 0, vI (i64.wrap (0 + 1)), vI 0, vU (u64.wrap (z101o2 x.fst w19)), vI (i64.wrap (i64.wrap (i64.wrap (0 + 1) + 0) + 1))] ++ anys101 48 []
noncomputable def h101o2o3o91 (N0 N1 N2 : Nat) (x : Sh.Ts [Sh.int u64]) (w18 w19 w20 w21 : Int) : Heap := [eL [vU 0, vU 0, vU 0, vU 0], eL [vU (Int.tmod x.fst 4294967296), vU (z101o11 x.fst)], eL [vU w18, vU ((z101o9 w19 x.fst).tmod 4294967296), vU w20, vU w21]]
noncomputable def t101o2o3o92 (N0 N1 N2 : Nat) (x : Sh.Ts [Sh.int u64]) (w18 w19 w20 w21 : Int) : List AV := [AV.any, AV.any, AV.ptr 0 0, AV.ptr 1 0, AV.ptr 2 0, vI (i64.wrap (0 + 1)), vI 0, vU (u64.wrap (z101o6 x.fst w19 w20)), vI (i64.wrap (i64.wrap (i64.wrap (i64.wrap (0 + 1) + 0) + 1) + 1))] ++ anys101 48 []
noncomputable def h101o2o3o92 (N0 N1 N2 : Nat) (x : Sh.Ts [Sh.int u64]) (w18 w19 w20 w21 : Int) : Heap := [eL [vU 0, vU 0, vU 0, vU 0], eL [vU (Int.tmod x.fst 4294967296), vU (z101o11 x.fst)], eL [vU w18, vU ((z101o9 w19 x.fst).tmod 4294967296), vU ((z101o15 w20 x.fst w19).tmod 4294967296), vU w21]]
noncomputable def t101o2o3o93 (N0 N1 N2 : Nat) (x : Sh.Ts [Sh.int u64]) (w18 w19 w20 w21 : Int) : List AV := [AV.any, AV.any, AV.ptr 0 0, AV.ptr 1 0, AV.ptr 2 0, vI (i64.wrap (0 + 1)), vI 0, vU (u64.wrap (u64.wrap ((u64.wrap (z101o6 x.fst w19 w20)).tdiv 4294967296) + u64.wrap ((u64.wrap (w21 + (u64.wrap (z101o6 x.fst w19 w20)).tmod 4294967296)).tdiv 4294967296))), vI (i64.wrap (i64.wrap (i64.wrap (i64.wrap (i64.wrap (0 + 1) + 0) + 1) + 1) + 1))] ++ anys101 48 []
noncomputable def h101o2o3o93 (N0 N1 N2 : Nat) (x : Sh.Ts [Sh.int u64]) (w18 w19 w20 w21 : Int) : Heap := [eL [vU 0, vU 0, vU 0, vU 0], eL [vU (Int.tmod x.fst 4294967296), vU (z101o11 x.fst)], eL [vU w18, vU ((z101o9 w19 x.fst).tmod 4294967296), vU ((z101o15 w20 x.fst w19).tmod 4294967296), vU ((u64.wrap (w21 + (u64.wrap (z101o6 x.fst w19 w20)).tmod 4294967296)).tmod 4294967296)]]
noncomputable def tx101o2o3o0 (N0 N1 N2 : Nat) (x : Sh.Ts [Sh.int u64]) (w18 w19 w20 w21 w22 w23 w24 : Int) : List AV := [AV.any, AV.any, AV.ptr 0 0, AV.ptr 1 0, AV.ptr 2 0, vI (i64.wrap (0 + 1)), vI 0] ++ anys101 50 []
noncomputable def hx101o2o3o0 (N0 N1 N2 : Nat) (x : Sh.Ts [Sh.int u64]) (w18 w19 w20 w21 w22 w23 w24 : Int) : Heap := [eL [vU 0, vU 0, vU 0, vU 0], eL [vU (Int.tmod x.fst 4294967296), vU (z101o11 x.fst)], eL [vU w18, vU w22, vU w23, vU w24]]
noncomputable def law101o2o3o93 {β : Type} (N0 N1 N2 : Nat) (x : (Int × Unit)) (w18 w19 w20 w21 : Int) (k0 : Int → Int → Int → Option β) : Nat → Option β
  | 0 => none
  | n + 1 => k0 ((z101o9 w19 x.fst).tmod 4294967296) ((z101o15 w20 x.fst w19).tmod 4294967296) ((u64.wrap (w21 + (u64.wrap (z101o6 x.fst w19 w20)).tmod 4294967296)).tmod 4294967296)
theorem leq101o2o3o93 {β : Type} (N0 N1 N2 : Nat) (x : Sh.Ts [Sh.int u64]) (w18 w19 w20 w21 : Int) (K : Exit → List AV → Heap → Option β) : ∀ (n : Nat), ln101o2 N0 N1 N2 n (t101o2o3o93 N0 N1 N2 x w18 w19 w20 w21) (h101o2o3o93 N0 N1 N2 x w18 w19 w20 w21) K = law101o2o3o93 N0 N1 N2 x w18 w19 w20 w21 (fun w22 w23 w24 => K (Exit.exit 4) (tx101o2o3o0 N0 N1 N2 x w18 w19 w20 w21 w22 w23 w24) (hx101o2o3o0 N0 N1 N2 x w18 w19 w20 w21 w22 w23 w24)) n
  | 0 => rfl
  | n + 1 => by
    have h : ln101o2 N0 N1 N2 (n + 1) (t101o2o3o93 N0 N1 N2 x w18 w19 w20 w21) (h101o2o3o93 N0 N1 N2 x w18 w19 w20 w21) K = K (Exit.exit 4) (tx101o2o3o0 N0 N1 N2 x w18 w19 w20 w21 ((z101o9 w19 x.fst).tmod 4294967296) ((z101o15 w20 x.fst w19).tmod 4294967296) ((u64.wrap (w21 + (u64.wrap (z101o6 x.fst w19 w20)).tmod 4294967296)).tmod 4294967296)) (hx101o2o3o0 N0 N1 N2 x w18 w19 w20 w21 ((z101o9 w19 x.fst).tmod 4294967296) ((z101o15 w20 x.fst w19).tmod 4294967296) ((u64.wrap (w21 + (u64.wrap (z101o6 x.fst w19 w20)).tmod 4294967296)).tmod 4294967296)) := by kernel_rfl
    rw [h]
    simp only [decide_self, decide_true, Nat.zero_add, Bool.and_true, Bool.true_and, cond_true, law101o2o3o93, leq101o2, leq101o2o1, rest101o2o1o0, rest101o2o0, leq101o1o2]
noncomputable def law101o2o3o92 {β : Type} (N0 N1 N2 : Nat) (x : (Int × Unit)) (w18 w19 w20 w21 : Int) (k0 : Int → Int → Int → Option β) : Nat → Option β
  | 0 => none
  | n + 1 => (bif decide (u64.wrap (z101o6 x.fst w19 w20) > 0) then law101o2o3o93 N0 N1 N2 x w18 w19 w20 w21 k0 n else k0 ((z101o9 w19 x.fst).tmod 4294967296) ((z101o15 w20 x.fst w19).tmod 4294967296) w21)
theorem leq101o2o3o92 {β : Type} (N0 N1 N2 : Nat) (x : Sh.Ts [Sh.int u64]) (w18 w19 w20 w21 : Int) (K : Exit → List AV → Heap → Option β) : ∀ (n : Nat), ln101o2 N0 N1 N2 n (t101o2o3o92 N0 N1 N2 x w18 w19 w20 w21) (h101o2o3o92 N0 N1 N2 x w18 w19 w20 w21) K = law101o2o3o92 N0 N1 N2 x w18 w19 w20 w21 (fun w22 w23 w24 => K (Exit.exit 4) (tx101o2o3o0 N0 N1 N2 x w18 w19 w20 w21 w22 w23 w24) (hx101o2o3o0 N0 N1 N2 x w18 w19 w20 w21 w22 w23 w24)) n
  | 0 => rfl
  | n + 1 => by
    have h : ln101o2 N0 N1 N2 (n + 1) (t101o2o3o92 N0 N1 N2 x w18 w19 w20 w21) (h101o2o3o92 N0 N1 N2 x w18 w19 w20 w21) K = (bif decide (u64.wrap (z101o6 x.fst w19 w20) > 0) then ln101o2 N0 N1 N2 n (t101o2o3o93 N0 N1 N2 x w18 w19 w20 w21) (h101o2o3o93 N0 N1 N2 x w18 w19 w20 w21) K else K (Exit.exit 4) (tx101o2o3o0 N0 N1 N2 x w18 w19 w20 w21 ((z101o9 w19 x.fst).tmod 4294967296) ((z101o15 w20 x.fst w19).tmod 4294967296) w21) (hx101o2o3o0 N0 N1 N2 x w18 w19 w20 w21 ((z101o9 w19 x.fst).tmod 4294967296) ((z101o15 w20 x.fst w19).tmod 4294967296) w21)) := by kernel_rfl
    rw [h]
    simp only [decide_self, decide_true, Nat.zero_add, Bool.and_true, Bool.true_and, cond_true, law101o2o3o92, leq101o2o3o93 N0 N1 N2 x w18 w19 w20 w21 K n, leq101o2, leq101o2o1, rest101o2o1o0, rest101o2o0, leq101o1o2]
noncomputable def law101o2o3o91 {β : Type} (N0 N1 N2 : Nat) (x : (Int × Unit)) (w18 w19 w20 w21 : Int) (k0 : Int → Int → Int → Option β) : Nat → Option β
  | 0 => none
  | n + 1 => (bif decide (u64.wrap (z101o2 x.fst w19) > 0) then law101o2o3o92 N0 N1 N2 x w18 w19 w20 w21 k0 n else k0 ((z101o9 w19 x.fst).tmod 4294967296) w20 w21)
theorem leq101o2o3o91 {β : Type} (N0 N1 N2 : Nat) (x : Sh.Ts [Sh.int u64]) (w18 w19 w20 w21 : Int) (K : Exit → List AV → Heap → Option β) : ∀ (n : Nat), ln101o2 N0 N1 N2 n (t101o2o3o91 N0 N1 N2 x w18 w19 w20 w21) (h101o2o3o91 N0 N1 N2 x w18 w19 w20 w21) K = law101o2o3o91 N0 N1 N2 x w18 w19 w20 w21 (fun w22 w23 w24 => K (Exit.exit 4) (tx101o2o3o0 N0 N1 N2 x w18 w19 w20 w21 w22 w23 w24) (hx101o2o3o0 N0 N1 N2 x w18 w19 w20 w21 w22 w23 w24)) n
  | 0 => rfl
  | n + 1 => by
    have h : ln101o2 N0 N1 N2 (n + 1) (t101o2o3o91 N0 N1 N2 x w18 w19 w20 w21) (h101o2o3o91 N0 N1 N2 x w18 w19 w20 w21) K = (bif decide (u64.wrap (z101o2 x.fst w19) > 0) then ln101o2 N0 N1 N2 n (t101o2o3o92 N0 N1 N2 x w18 w19 w20 w21) (h101o2o3o92 N0 N1 N2 x w18 w19 w20 w21) K else K (Exit.exit 4) (tx101o2o3o0 N0 N1 N2 x w18 w19 w20 w21 ((z101o9 w19 x.fst).tmod 4294967296) w20 w21) (hx101o2o3o0 N0 N1 N2 x w18 w19 w20 w21 ((z101o9 w19 x.fst).tmod 4294967296) w20 w21)) := by kernel_rfl
    rw [h]
    simp only [decide_self, decide_true, Nat.zero_add, Bool.and_true, Bool.true_and, cond_true, law101o2o3o91, leq101o2o3o92 N0 N1 N2 x w18 w19 w20 w21 K n, leq101o2, leq101o2o1, rest101o2o1o0, rest101o2o0, leq101o1o2]
noncomputable def law101o2o3 {β : Type} (N0 N1 N2 : Nat) (x : (Int × Unit)) (w18 w19 w20 w21 : Int) (k0 : Int → Int → Int → Option β) : Nat → Option β
  | 0 => none
  | n + 1 => (bif decide (u64.wrap (u64.wrap (Int.tdiv x.fst 4294967296) * Int.tmod x.fst 4294967296) > 0) then law101o2o3o91 N0 N1 N2 x w18 w19 w20 w21 k0 n else k0 w19 w20 w21)
theorem leq101o2o3 {β : Type} (N0 N1 N2 : Nat) (x : Sh.Ts [Sh.int u64]) (w18 w19 w20 w21 : Int) (K : Exit → List AV → Heap → Option β) : ∀ (n : Nat), ln101o2 N0 N1 N2 n (t101o2o3 N0 N1 N2 x w18 w19 w20 w21) (h101o2o3 N0 N1 N2 x w18 w19 w20 w21) K = law101o2o3 N0 N1 N2 x w18 w19 w20 w21 (fun w22 w23 w24 => K (Exit.exit 4) (tx101o2o3o0 N0 N1 N2 x w18 w19 w20 w21 w22 w23 w24) (hx101o2o3o0 N0 N1 N2 x w18 w19 w20 w21 w22 w23 w24)) n
  | 0 => rfl
  | n + 1 => by
    have h : ln101o2 N0 N1 N2 (n + 1) (t101o2o3 N0 N1 N2 x w18 w19 w20 w21) (h101o2o3 N0 N1 N2 x w18 w19 w20 w21) K = (bif decide (u64.wrap (u64.wrap (Int.tdiv x.fst 4294967296) * Int.tmod x.fst 4294967296) > 0) then ln101o2 N0 N1 N2 n (t101o2o3o91 N0 N1 N2 x w18 w19 w20 w21) (h101o2o3o91 N0 N1 N2 x w18 w19 w20 w21) K else K (Exit.exit 4) (tx101o2o3o0 N0 N1 N2 x w18 w19 w20 w21 w19 w20 w21) (hx101o2o3o0 N0 N1 N2 x w18 w19 w20 w21 w19 w20 w21)) := by kernel_rfl
    rw [h]
    simp only [decide_self, decide_true, Nat.zero_add, Bool.and_true, Bool.true_and, cond_true, law101o2o3, leq101o2o3o91 N0 N1 N2 x w18 w19 w20 w21 K n, leq101o2, leq101o2o1, rest101o2o1o0, rest101o2o0, leq101o1o2]
noncomputable def t101o2o4 (N0 N1 N2 : Nat) (x : Sh.Ts [Sh.int u64]) (w18 w25 w26 w27 : Int) : List AV := [AV.any, AV.any, AV.ptr 0 0, AV.ptr 1 0, AV.ptr 2 0, vI (i64.wrap (0 + 1)), vI (i64.wrap (0 + 1)), vU (u64.wrap (u64.wrap (Int.tdiv x.fst 4294967296) * u64.wrap (Int.tdiv x.fst 4294967296))), vI (i64.wrap (i64.wrap (0 + 1) + i64.wrap (0 + 1)))] ++ anys101 48 []
noncomputable def h101o2o4 (N0 N1 N2 : Nat) (x : Sh.Ts [Sh.int u64]) (w18 w25 w26 w27 : Int) : Heap := [eL [vU 0, vU 0, vU 0, vU 0], eL [vU (Int.tmod x.fst 4294967296), vU (z101o11 x.fst)], eL [vU w18, vU w25, vU w26, vU w27]]
noncomputable def t101o2o4o91 (N0 N1 N2 : Nat) (x : Sh.Ts [Sh.int u64]) (w18 w25 w26 w27 : Int) : List AV := [AV.any, AV.any, AV.ptr 0 0, AV.ptr 1 0, AV.ptr 2 0, vI (i64.wrap (0 + 1)), vI (i64.wrap (0 + 1)), vU (u64.wrap (z101o4 x.fst w26)), vI (i64.wrap (i64.wrap (i64.wrap (0 + 1) + i64.wrap (0 + 1)) + 1))] ++ anys101 48 []
noncomputable def h101o2o4o91 (N0 N1 N2 : Nat) (x : Sh.Ts [Sh.int u64]) (w18 w25 w26 w27 : Int) : Heap := [eL [vU 0, vU 0, vU 0, vU 0], eL [vU (Int.tmod x.fst 4294967296), vU (z101o11 x.fst)], eL [vU w18, vU w25, vU ((z101o12 w26 x.fst).tmod 4294967296), vU w27]]
noncomputable def t101o2o4o92 (N0 N1 N2 : Nat) (x : Sh.Ts [Sh.int u64]) (w18 w25 w26 w27 : Int) : List AV := [AV.any, AV.any, AV.ptr 0 0, AV.ptr 1 0, AV.ptr 2 0, vI (i64.wrap (0 + 1)), vI (i64.wrap (0 + 1)), vU (u64.wrap (u64.wrap ((u64.wrap (z101o4 x.fst w26)).tdiv 4294967296) + u64.wrap ((u64.wrap (w27 + (u64.wrap (z101o4 x.fst w26)).tmod 4294967296)).tdiv 4294967296))), vI (i64.wrap (i64.wrap (i64.wrap (i64.wrap (0 + 1) + i64.wrap (0 + 1)) + 1) + 1))] ++ anys101 48 []
noncomputable def h101o2o4o92 (N0 N1 N2 : Nat) (x : Sh.Ts [Sh.int u64]) (w18 w25 w26 w27 : Int) : Heap := [eL [vU 0, vU 0, vU 0, vU 0], eL [vU (Int.tmod x.fst 4294967296), vU (z101o11 x.fst)], eL [vU w18, vU w25, vU ((z101o12 w26 x.fst).tmod 4294967296), vU ((u64.wrap (w27 + (u64.wrap (z101o4 x.fst w26)).tmod 4294967296)).tmod 4294967296)]]
noncomputable def tx101o2o4o0 (N0 N1 N2 : Nat) (x : Sh.Ts [Sh.int u64]) (w18 w25 w26 w27 w28 w29 : Int) : List AV := [AV.any, AV.any, AV.ptr 0 0, AV.ptr 1 0, AV.ptr 2 0, vI (i64.wrap (0 + 1)), vI (i64.wrap (0 + 1))] ++ anys101 50 []
noncomputable def hx101o2o4o0 (N0 N1 N2 : Nat) (x : Sh.Ts [Sh.int u64]) (w18 w25 w26 w27 w28 w29 : Int) : Heap := [eL [vU 0, vU 0, vU 0, vU 0], eL [vU (Int.tmod x.fst 4294967296), vU (z101o11 x.fst)], eL [vU w18, vU w25, vU w28, vU w29]]
noncomputable def law101o2o4o92 {β : Type} (N0 N1 N2 : Nat) (x : (Int × Unit)) (w18 w25 w26 w27 : Int) (k0 : Int → Int → Option β) : Nat → Option β
  | 0 => none
  | n + 1 => k0 ((z101o12 w26 x.fst).tmod 4294967296) ((u64.wrap (w27 + (u64.wrap (z101o4 x.fst w26)).tmod 4294967296)).tmod 4294967296)
theorem leq101o2o4o92 {β : Type} (N0 N1 N2 : Nat) (x : Sh.Ts [Sh.int u64]) (w18 w25 w26 w27 : Int) (K : Exit → List AV → Heap → Option β) : ∀ (n : Nat), ln101o2 N0 N1 N2 n (t101o2o4o92 N0 N1 N2 x w18 w25 w26 w27) (h101o2o4o92 N0 N1 N2 x w18 w25 w26 w27) K = law101o2o4o92 N0 N1 N2 x w18 w25 w26 w27 (fun w28 w29 => K (Exit.exit 4) (tx101o2o4o0 N0 N1 N2 x w18 w25 w26 w27 w28 w29) (hx101o2o4o0 N0 N1 N2 x w18 w25 w26 w27 w28 w29)) n
  | 0 => rfl
  | n + 1 => by
    have h : ln101o2 N0 N1 N2 (n + 1) (t101o2o4o92 N0 N1 N2 x w18 w25 w26 w27) (h101o2o4o92 N0 N1 N2 x w18 w25 w26 w27) K = K (Exit.exit 4) (tx101o2o4o0 N0 N1 N2 x w18 w25 w26 w27 ((z101o12 w26 x.fst).tmod 4294967296) ((u64.wrap (w27 + (u64.wrap (z101o4 x.fst w26)).tmod 4294967296)).tmod 4294967296)) (hx101o2o4o0 N0 N1 N2 x w18 w25 w26 w27 ((z101o12 w26 x.fst).tmod 4294967296) ((u64.wrap (w27 + (u64.wrap (z101o4 x.fst w26)).tmod 4294967296)).tmod 4294967296)) := by kernel_rfl
    rw [h]
    simp only [decide_self, decide_true, Nat.zero_add, Bool.and_true, Bool.true_and, cond_true, law101o2o4o92, leq101o2, leq101o2o1, rest101o2o1o0, rest101o2o0, leq101o1o2, leq101o2o3]
noncomputable def law101o2o4o91 {β : Type} (N0 N1 N2 : Nat) (x : (Int × Unit)) (w18 w25 w26 w27 : Int) (k0 : Int → Int → Option β) : Nat → Option β
  | 0 => none
  | n + 1 => (bif decide (u64.wrap (z101o4 x.fst w26) > 0) then law101o2o4o92 N0 N1 N2 x w18 w25 w26 w27 k0 n else k0 ((z101o12 w26 x.fst).tmod 4294967296) w27)
theorem leq101o2o4o91 {β : Type} (N0 N1 N2 : Nat) (x : Sh.Ts [Sh.int u64]) (w18 w25 w26 w27 : Int) (K : Exit → List AV → Heap → Option β) : ∀ (n : Nat), ln101o2 N0 N1 N2 n (t101o2o4o91 N0 N1 N2 x w18 w25 w26 w27) (h101o2o4o91 N0 N1 N2 x w18 w25 w26 w27) K = law101o2o4o91 N0 N1 N2 x w18 w25 w26 w27 (fun w28 w29 => K (Exit.exit 4) (tx101o2o4o0 N0 N1 N2 x w18 w25 w26 w27 w28 w29) (hx101o2o4o0 N0 N1 N2 x w18 w25 w26 w27 w28 w29)) n
  | 0 => rfl
  | n + 1 => by
    have h : ln101o2 N0 N1 N2 (n + 1) (t101o2o4o91 N0 N1 N2 x w18 w25 w26 w27) (h101o2o4o91 N0 N1 N2 x w18 w25 w26 w27) K = (bif decide (u64.wrap (z101o4 x.fst w26) > 0) then ln101o2 N0 N1 N2 n (t101o2o4o92 N0 N1 N2 x w18 w25 w26 w27) (h101o2o4o92 N0 N1 N2 x w18 w25 w26 w27) K else K (Exit.exit 4) (tx101o2o4o0 N0 N1 N2 x w18 w25 w26 w27 ((z101o12 w26 x.fst).tmod 4294967296) w27) (hx101o2o4o0 N0 N1 N2 x w18 w25 w26 w27 ((z101o12 w26 x.fst).tmod 4294967296) w27)) := by kernel_rfl
    rw [h]
    simp only [decide_self, decide_true, Nat.zero_add, Bool.and_true, Bool.true_and, cond_true, law101o2o4o91, leq101o2o4o92 N0 N1 N2 x w18 w25 w26 w27 K n, leq101o2, leq101o2o1, rest101o2o1o0, rest101o2o0, leq101o1o2, leq101o2o3]
noncomputable def law101o2o4 {β : Type} (N0 N1 N2 : Nat) (x : (Int × Unit)) (w18 w25 w26 w27 : Int) (k0 : Int → Int → Option β) : Nat → Option β
  | 0 => none
  | n + 1 => (bif decide (u64.wrap (u64.wrap (Int.tdiv x.fst 4294967296) * u64.wrap (Int.tdiv x.fst 4294967296)) > 0) then law101o2o4o91 N0 N1 N2 x w18 w25 w26 w27 k0 n else k0 w26 w27)
theorem leq101o2o4 {β : Type} (N0 N1 N2 : Nat) (x : Sh.Ts [Sh.int u64]) (w18 w25 w26 w27 : Int) (K : Exit → List AV → Heap → Option β) : ∀ (n : Nat), ln101o2 N0 N1 N2 n (t101o2o4 N0 N1 N2 x w18 w25 w26 w27) (h101o2o4 N0 N1 N2 x w18 w25 w26 w27) K = law101o2o4 N0 N1 N2 x w18 w25 w26 w27 (fun w28 w29 => K (Exit.exit 4) (tx101o2o4o0 N0 N1 N2 x w18 w25 w26 w27 w28 w29) (hx101o2o4o0 N0 N1 N2 x w18 w25 w26 w27 w28 w29)) n
  | 0 => rfl
  | n + 1 => by
    have h : ln101o2 N0 N1 N2 (n + 1) (t101o2o4 N0 N1 N2 x w18 w25 w26 w27) (h101o2o4 N0 N1 N2 x w18 w25 w26 w27) K = (bif decide (u64.wrap (u64.wrap (Int.tdiv x.fst 4294967296) * u64.wrap (Int.tdiv x.fst 4294967296)) > 0) then ln101o2 N0 N1 N2 n (t101o2o4o91 N0 N1 N2 x w18 w25 w26 w27) (h101o2o4o91 N0 N1 N2 x w18 w25 w26 w27) K else K (Exit.exit 4) (tx101o2o4o0 N0 N1 N2 x w18 w25 w26 w27 w26 w27) (hx101o2o4o0 N0 N1 N2 x w18 w25 w26 w27 w26 w27)) := by kernel_rfl
    rw [h]
    simp only [decide_self, decide_true, Nat.zero_add, Bool.and_true, Bool.true_and, cond_true, law101o2o4, leq101o2o4o91 N0 N1 N2 x w18 w25 w26 w27 K n, leq101o2, leq101o2o1, rest101o2o1o0, rest101o2o0, leq101o1o2, leq101o2o3]
noncomputable def t101o1o5 (N0 N1 N2 : Nat) (x : Sh.Ts [Sh.int u64]) (w18 w19 w20 w21 : Int) : List AV := [AV.any, AV.any, AV.ptr 0 0, AV.ptr 1 0, AV.ptr 2 0, vI (i64.wrap (0 + 1)), vI 0] ++ anys101 50 []
noncomputable def h101o1o5 (N0 N1 N2 : Nat) (x : Sh.Ts [Sh.int u64]) (w18 w19 w20 w21 : Int) : Heap := [eL [vU 0, vU 0, vU 0, vU 0], eL [vU (Int.tmod x.fst 4294967296), vU (z101o11 x.fst)], eL [vU w18, vU w19, vU w20, vU w21]]
noncomputable def t101o1o5o91 (N0 N1 N2 : Nat) (x : Sh.Ts [Sh.int u64]) (w18 w19 w20 w21 w25 w26 w27 : Int) : List AV := [AV.any, AV.any, AV.ptr 0 0, AV.ptr 1 0, AV.ptr 2 0, vI (i64.wrap (0 + 1)), vI (i64.wrap (0 + 1))] ++ anys101 50 []
noncomputable def h101o1o5o91 (N0 N1 N2 : Nat) (x : Sh.Ts [Sh.int u64]) (w18 w19 w20 w21 w25 w26 w27 : Int) : Heap := [eL [vU 0, vU 0, vU 0, vU 0], eL [vU (Int.tmod x.fst 4294967296), vU (z101o11 x.fst)], eL [vU w18, vU w25, vU w26, vU w27]]
noncomputable def t101o1o5o92 (N0 N1 N2 : Nat) (x : Sh.Ts [Sh.int u64]) (w18 w19 w20 w21 w25 w30 w31 : Int) : List AV := [AV.any, AV.any, AV.ptr 0 0, AV.ptr 1 0, AV.ptr 2 0, vI (i64.wrap (0 + 1)), vI (i64.wrap (i64.wrap (0 + 1) + 1))] ++ anys101 50 []
noncomputable def h101o1o5o92 (N0 N1 N2 : Nat) (x : Sh.Ts [Sh.int u64]) (w18 w19 w20 w21 w25 w30 w31 : Int) : Heap := [eL [vU 0, vU 0, vU 0, vU 0], eL [vU (Int.tmod x.fst 4294967296), vU (z101o11 x.fst)], eL [vU w18, vU w25, vU w30, vU w31]]
noncomputable def tx101o1o5o0 (N0 N1 N2 : Nat) (x : Sh.Ts [Sh.int u64]) (w18 w19 w20 w21 w32 w33 w34 : Int) : List AV := [AV.any, AV.any, AV.ptr 0 0, AV.ptr 1 0, AV.ptr 2 0, vI (i64.wrap (0 + 1))] ++ anys101 51 []
noncomputable def hx101o1o5o0 (N0 N1 N2 : Nat) (x : Sh.Ts [Sh.int u64]) (w18 w19 w20 w21 w32 w33 w34 : Int) : Heap := [eL [vU 0, vU 0, vU 0, vU 0], eL [vU (Int.tmod x.fst 4294967296), vU (z101o11 x.fst)], eL [vU w18, vU w32, vU w33, vU w34]]
noncomputable def law101o1o5o92 {β : Type} (N0 N1 N2 : Nat) (x : (Int × Unit)) (w18 w19 w20 w21 w25 w30 w31 : Int) (k0 : Int → Int → Int → Option β) : Nat → Option β
  | 0 => none
  | n + 1 => k0 w25 w30 w31
theorem leq101o1o5o92 {β : Type} (N0 N1 N2 : Nat) (x : Sh.Ts [Sh.int u64]) (w18 w19 w20 w21 w25 w30 w31 : Int) (K : Exit → List AV → Heap → Option β) : ∀ (n : Nat), ln101o1 N0 N1 N2 n (t101o1o5o92 N0 N1 N2 x w18 w19 w20 w21 w25 w30 w31) (h101o1o5o92 N0 N1 N2 x w18 w19 w20 w21 w25 w30 w31) K = law101o1o5o92 N0 N1 N2 x w18 w19 w20 w21 w25 w30 w31 (fun w32 w33 w34 => K (Exit.exit 2) (tx101o1o5o0 N0 N1 N2 x w18 w19 w20 w21 w32 w33 w34) (hx101o1o5o0 N0 N1 N2 x w18 w19 w20 w21 w32 w33 w34)) n
  | 0 => rfl
  | n + 1 => by
    have h : ln101o1 N0 N1 N2 (n + 1) (t101o1o5o92 N0 N1 N2 x w18 w19 w20 w21 w25 w30 w31) (h101o1o5o92 N0 N1 N2 x w18 w19 w20 w21 w25 w30 w31) K = K (Exit.exit 2) (tx101o1o5o0 N0 N1 N2 x w18 w19 w20 w21 w25 w30 w31) (hx101o1o5o0 N0 N1 N2 x w18 w19 w20 w21 w25 w30 w31) := by kernel_rfl
    rw [h]
    simp only [decide_self, decide_true, Nat.zero_add, Bool.and_true, Bool.true_and, cond_true, law101o1o5o92, leq101o2, leq101o2o1, rest101o2o1o0, rest101o2o0, leq101o1o2, leq101o2o3, leq101o2o4]
theorem rest101o2o4o0 {β : Type} (n : Nat) (K : Exit → List AV → Heap → Option β) (N0 N1 N2 : Nat) (x : Sh.Ts [Sh.int u64]) (w18 w19 w20 w21 w25 w26 w27 w30 w31 : Int) : rk101o2 N0 N1 N2 n K (Exit.exit 4) (tx101o2o4o0 N0 N1 N2 x w18 w25 w26 w27 w30 w31) (hx101o2o4o0 N0 N1 N2 x w18 w25 w26 w27 w30 w31) = ln101o1 N0 N1 N2 n (t101o1o5o92 N0 N1 N2 x w18 w19 w20 w21 w25 w30 w31) (h101o1o5o92 N0 N1 N2 x w18 w19 w20 w21 w25 w30 w31) K := by kernel_rfl
noncomputable def law101o1o5o91 {β : Type} (N0 N1 N2 : Nat) (x : (Int × Unit)) (w18 w19 w20 w21 w25 w26 w27 : Int) (k0 : Int → Int → Int → Option β) : Nat → Option β
  | 0 => none
  | n + 1 => (law101o2o4 N0 N1 N2 x w18 w25 w26 w27 (fun w30 w31 => law101o1o5o92 N0 N1 N2 x w18 w19 w20 w21 w25 w30 w31 k0 n) N2)
theorem leq101o1o5o91 {β : Type} (N0 N1 N2 : Nat) (x : Sh.Ts [Sh.int u64]) (w18 w19 w20 w21 w25 w26 w27 : Int) (K : Exit → List AV → Heap → Option β) : ∀ (n : Nat), ln101o1 N0 N1 N2 n (t101o1o5o91 N0 N1 N2 x w18 w19 w20 w21 w25 w26 w27) (h101o1o5o91 N0 N1 N2 x w18 w19 w20 w21 w25 w26 w27) K = law101o1o5o91 N0 N1 N2 x w18 w19 w20 w21 w25 w26 w27 (fun w32 w33 w34 => K (Exit.exit 2) (tx101o1o5o0 N0 N1 N2 x w18 w19 w20 w21 w32 w33 w34) (hx101o1o5o0 N0 N1 N2 x w18 w19 w20 w21 w32 w33 w34)) n
  | 0 => rfl
  | n + 1 => by
    have h : ln101o1 N0 N1 N2 (n + 1) (t101o1o5o91 N0 N1 N2 x w18 w19 w20 w21 w25 w26 w27) (h101o1o5o91 N0 N1 N2 x w18 w19 w20 w21 w25 w26 w27) K = (ln101o2 N0 N1 N2 N2 (t101o2o4 N0 N1 N2 x w18 w25 w26 w27) (h101o2o4 N0 N1 N2 x w18 w25 w26 w27) (rk101o2 N0 N1 N2 n K)) := by kernel_rfl
    rw [h]
    simp only [decide_self, decide_true, Nat.zero_add, Bool.and_true, Bool.true_and, cond_true, law101o1o5o91, leq101o1o5o92, leq101o2, leq101o2o1, rest101o2o1o0, rest101o2o0, leq101o1o2, leq101o2o3, leq101o2o4, rest101o2o4o0 (w19 := w19) (w20 := w20) (w21 := w21)]
theorem rest101o2o3o0 {β : Type} (n : Nat) (K : Exit → List AV → Heap → Option β) (N0 N1 N2 : Nat) (x : Sh.Ts [Sh.int u64]) (w18 w19 w20 w21 w25 w26 w27 : Int) : rk101o2 N0 N1 N2 n K (Exit.exit 4) (tx101o2o3o0 N0 N1 N2 x w18 w19 w20 w21 w25 w26 w27) (hx101o2o3o0 N0 N1 N2 x w18 w19 w20 w21 w25 w26 w27) = ln101o1 N0 N1 N2 n (t101o1o5o91 N0 N1 N2 x w18 w19 w20 w21 w25 w26 w27) (h101o1o5o91 N0 N1 N2 x w18 w19 w20 w21 w25 w26 w27) K := by kernel_rfl
noncomputable def law101o1o5 {β : Type} (N0 N1 N2 : Nat) (x : (Int × Unit)) (w18 w19 w20 w21 : Int) (k0 : Int → Int → Int → Option β) : Nat → Option β
  | 0 => none
  | n + 1 => (law101o2o3 N0 N1 N2 x w18 w19 w20 w21 (fun w25 w26 w27 => law101o1o5o91 N0 N1 N2 x w18 w19 w20 w21 w25 w26 w27 k0 n) N2)
theorem leq101o1o5 {β : Type} (N0 N1 N2 : Nat) (x : Sh.Ts [Sh.int u64]) (w18 w19 w20 w21 : Int) (K : Exit → List AV → Heap → Option β) : ∀ (n : Nat), ln101o1 N0 N1 N2 n (t101o1o5 N0 N1 N2 x w18 w19 w20 w21) (h101o1o5 N0 N1 N2 x w18 w19 w20 w21) K = law101o1o5 N0 N1 N2 x w18 w19 w20 w21 (fun w32 w33 w34 => K (Exit.exit 2) (tx101o1o5o0 N0 N1 N2 x w18 w19 w20 w21 w32 w33 w34) (hx101o1o5o0 N0 N1 N2 x w18 w19 w20 w21 w32 w33 w34)) n
  | 0 => rfl
  | n + 1 => by
    have h : ln101o1 N0 N1 N2 (n + 1) (t101o1o5 N0 N1 N2 x w18 w19 w20 w21) (h101o1o5 N0 N1 N2 x w18 w19 w20 w21) K = (ln101o2 N0 N1 N2 N2 (t101o2o3 N0 N1 N2 x w18 w19 w20 w21) (h101o2o3 N0 N1 N2 x w18 w19 w20 w21) (rk101o2 N0 N1 N2 n K)) := by kernel_rfl
    rw [h]
    simp only [decide_self, decide_true, Nat.zero_add, Bool.and_true, Bool.true_and, cond_true, law101o1o5, leq101o1o5o91, leq101o2, leq101o2o1, rest101o2o1o0, rest101o2o0, leq101o1o2, leq101o2o3, leq101o2o4, rest101o2o4o0 (w19 := w19) (w20 := w20) (w21 := w21), rest101o2o3o0]
noncomputable def t101o0o6 (N0 N1 N2 : Nat) (x : Sh.Ts [Sh.int u64]) : List AV := [AV.any, AV.any, AV.ptr 0 0, AV.ptr 1 0, AV.ptr 2 0, vI 0] ++ anys101 51 []
noncomputable def h101o0o6 (N0 N1 N2 : Nat) (x : Sh.Ts [Sh.int u64]) : Heap := [eL [vU 0, vU 0, vU 0, vU 0], eL [vU (Int.tmod x.fst 4294967296), vU (z101o11 x.fst)], eL [vU 0, vU 0, vU 0, vU 0]]
noncomputable def t101o0o6o91 (N0 N1 N2 : Nat) (x : Sh.Ts [Sh.int u64]) (w18 w19 w20 w21 : Int) : List AV := [AV.any, AV.any, AV.ptr 0 0, AV.ptr 1 0, AV.ptr 2 0, vI (i64.wrap (0 + 1))] ++ anys101 51 []
noncomputable def h101o0o6o91 (N0 N1 N2 : Nat) (x : Sh.Ts [Sh.int u64]) (w18 w19 w20 w21 : Int) : Heap := [eL [vU 0, vU 0, vU 0, vU 0], eL [vU (Int.tmod x.fst 4294967296), vU (z101o11 x.fst)], eL [vU w18, vU w19, vU w20, vU w21]]
noncomputable def t101o0o6o92 (N0 N1 N2 : Nat) (x : Sh.Ts [Sh.int u64]) (w18 w35 w36 w37 : Int) : List AV := [AV.any, AV.any, AV.ptr 0 0, AV.ptr 1 0, AV.ptr 2 0, vI (i64.wrap (i64.wrap (0 + 1) + 1))] ++ anys101 51 []
noncomputable def h101o0o6o92 (N0 N1 N2 : Nat) (x : Sh.Ts [Sh.int u64]) (w18 w35 w36 w37 : Int) : Heap := [eL [vU 0, vU 0, vU 0, vU 0], eL [vU (Int.tmod x.fst 4294967296), vU (z101o11 x.fst)], eL [vU w18, vU w35, vU w36, vU w37]]
noncomputable def tx101o0o6o0 (N0 N1 N2 : Nat) (x : Sh.Ts [Sh.int u64]) (w38 w39 w40 w41 : Int) : List AV := [AV.any, AV.any, AV.ptr 0 0, AV.any, AV.ptr 1 0] ++ anys101 52 []
noncomputable def hx101o0o6o0 (N0 N1 N2 : Nat) (x : Sh.Ts [Sh.int u64]) (w38 w39 w40 w41 : Int) : Heap := [eL [vU 0, vU 0, vU 0, vU 0], eL [vU w38, vU w39, vU w40, vU w41]]
noncomputable def law101o0o6o92 {β : Type} (N0 N1 N2 : Nat) (x : (Int × Unit)) (w18 w35 w36 w37 : Int) (k0 : Int → Int → Int → Int → Option β) : Nat → Option β
  | 0 => none
  | n + 1 => k0 w18 w35 w36 w37
theorem leq101o0o6o92 {β : Type} (N0 N1 N2 : Nat) (x : Sh.Ts [Sh.int u64]) (w18 w35 w36 w37 : Int) (K : Exit → List AV → Heap → Option β) : ∀ (n : Nat), ln101o0 N0 N1 N2 n (t101o0o6o92 N0 N1 N2 x w18 w35 w36 w37) (h101o0o6o92 N0 N1 N2 x w18 w35 w36 w37) K = law101o0o6o92 N0 N1 N2 x w18 w35 w36 w37 (fun w38 w39 w40 w41 => K (Exit.exit 0) (tx101o0o6o0 N0 N1 N2 x w38 w39 w40 w41) (hx101o0o6o0 N0 N1 N2 x w38 w39 w40 w41)) n
  | 0 => rfl
  | n + 1 => by
    have h : ln101o0 N0 N1 N2 (n + 1) (t101o0o6o92 N0 N1 N2 x w18 w35 w36 w37) (h101o0o6o92 N0 N1 N2 x w18 w35 w36 w37) K = K (Exit.exit 0) (tx101o0o6o0 N0 N1 N2 x w18 w35 w36 w37) (hx101o0o6o0 N0 N1 N2 x w18 w35 w36 w37) := by kernel_rfl
    rw [h]
    simp only [decide_self, decide_true, Nat.zero_add, Bool.and_true, Bool.true_and, cond_true, law101o0o6o92, leq101o2, leq101o2o1, rest101o2o1o0, rest101o2o0, leq101o1o2, leq101o2o3, leq101o2o4, rest101o2o3o0, leq101o1o5]
theorem rest101o1o5o0 {β : Type} (n : Nat) (K : Exit → List AV → Heap → Option β) (N0 N1 N2 : Nat) (x : Sh.Ts [Sh.int u64]) (w18 w19 w20 w21 w35 w36 w37 : Int) : rk101o1 N0 N1 N2 n K (Exit.exit 2) (tx101o1o5o0 N0 N1 N2 x w18 w19 w20 w21 w35 w36 w37) (hx101o1o5o0 N0 N1 N2 x w18 w19 w20 w21 w35 w36 w37) = ln101o0 N0 N1 N2 n (t101o0o6o92 N0 N1 N2 x w18 w35 w36 w37) (h101o0o6o92 N0 N1 N2 x w18 w35 w36 w37) K := by kernel_rfl
noncomputable def law101o0o6o91 {β : Type} (N0 N1 N2 : Nat) (x : (Int × Unit)) (w18 w19 w20 w21 : Int) (k0 : Int → Int → Int → Int → Option β) : Nat → Option β
  | 0 => none
  | n + 1 => (law101o1o5 N0 N1 N2 x w18 w19 w20 w21 (fun w35 w36 w37 => law101o0o6o92 N0 N1 N2 x w18 w35 w36 w37 k0 n) N1)
theorem leq101o0o6o91 {β : Type} (N0 N1 N2 : Nat) (x : Sh.Ts [Sh.int u64]) (w18 w19 w20 w21 : Int) (K : Exit → List AV → Heap → Option β) : ∀ (n : Nat), ln101o0 N0 N1 N2 n (t101o0o6o91 N0 N1 N2 x w18 w19 w20 w21) (h101o0o6o91 N0 N1 N2 x w18 w19 w20 w21) K = law101o0o6o91 N0 N1 N2 x w18 w19 w20 w21 (fun w38 w39 w40 w41 => K (Exit.exit 0) (tx101o0o6o0 N0 N1 N2 x w38 w39 w40 w41) (hx101o0o6o0 N0 N1 N2 x w38 w39 w40 w41)) n
  | 0 => rfl
  | n + 1 => by
    have h : ln101o0 N0 N1 N2 (n + 1) (t101o0o6o91 N0 N1 N2 x w18 w19 w20 w21) (h101o0o6o91 N0 N1 N2 x w18 w19 w20 w21) K = (ln101o1 N0 N1 N2 N1 (t101o1o5 N0 N1 N2 x w18 w19 w20 w21) (h101o1o5 N0 N1 N2 x w18 w19 w20 w21) (rk101o1 N0 N1 N2 n K)) := by kernel_rfl
    rw [h]
    simp only [decide_self, decide_true, Nat.zero_add, Bool.and_true, Bool.true_and, cond_true, law101o0o6o91, leq101o0o6o92, leq101o2, leq101o2o1, rest101o2o1o0, rest101o2o0, leq101o1o2, leq101o2o3, leq101o2o4, rest101o2o4o0 (w19 := w19) (w20 := w20) (w21 := w21), rest101o2o3o0, leq101o1o5, rest101o1o5o0]
theorem rest101o1o2o0 {β : Type} (n : Nat) (K : Exit → List AV → Heap → Option β) (N0 N1 N2 : Nat) (x : Sh.Ts [Sh.int u64]) (w18 w19 w20 w21 : Int) : rk101o1 N0 N1 N2 n K (Exit.exit 2) (tx101o1o2o0 N0 N1 N2 x w18 w19 w20 w21) (hx101o1o2o0 N0 N1 N2 x w18 w19 w20 w21) = ln101o0 N0 N1 N2 n (t101o0o6o91 N0 N1 N2 x w18 w19 w20 w21) (h101o0o6o91 N0 N1 N2 x w18 w19 w20 w21) K := by kernel_rfl
noncomputable def law101o0o6 {β : Type} (N0 N1 N2 : Nat) (x : (Int × Unit)) (k0 : Int → Int → Int → Int → Option β) : Nat → Option β
  | 0 => none
  | n + 1 => (law101o1o2 N0 N1 N2 x (fun w18 w19 w20 w21 => law101o0o6o91 N0 N1 N2 x w18 w19 w20 w21 k0 n) N1)
theorem leq101o0o6 {β : Type} (N0 N1 N2 : Nat) (x : Sh.Ts [Sh.int u64]) (K : Exit → List AV → Heap → Option β) : ∀ (n : Nat), ln101o0 N0 N1 N2 n (t101o0o6 N0 N1 N2 x) (h101o0o6 N0 N1 N2 x) K = law101o0o6 N0 N1 N2 x (fun w38 w39 w40 w41 => K (Exit.exit 0) (tx101o0o6o0 N0 N1 N2 x w38 w39 w40 w41) (hx101o0o6o0 N0 N1 N2 x w38 w39 w40 w41)) n
  | 0 => rfl
  | n + 1 => by
    have h : ln101o0 N0 N1 N2 (n + 1) (t101o0o6 N0 N1 N2 x) (h101o0o6 N0 N1 N2 x) K = (ln101o1 N0 N1 N2 N1 (t101o1o2 N0 N1 N2 x) (h101o1o2 N0 N1 N2 x) (rk101o1 N0 N1 N2 n K)) := by kernel_rfl
    rw [h]
    simp only [decide_self, decide_true, Nat.zero_add, Bool.and_true, Bool.true_and, cond_true, law101o0o6, leq101o0o6o91, leq101o2, leq101o2o1, rest101o2o1o0, rest101o2o0, leq101o1o2, leq101o2o3, leq101o2o4, rest101o2o3o0, leq101o1o5, rest101o1o5o0, rest101o1o2o0]
theorem rest101o0o6o0 (N0 N1 N2 : Nat) (x : Sh.Ts [Sh.int u64]) (w42 w43 w44 w45 : Int) : rk101o0 N0 N1 N2 (Exit.exit 0) (tx101o0o6o0 N0 N1 N2 x w42 w43 w44 w45) (hx101o0o6o0 N0 N1 N2 x w42 w43 w44 w45) = some (((w42, w43, w44, w45, ()), ())) := by kernel_rfl
noncomputable def law101 (N0 N1 N2 : Nat) (x : (Int × Unit)) : Option (((Int × Int × Int × Int × Unit) × Unit)) := (law101o0o6 N0 N1 N2 x (fun w42 w43 w44 w45 => some (((w42, w43, w44, w45, ()), ()))) N0)
theorem eq101 (N0 N1 N2 : Nat) (x : Sh.Ts [Sh.int u64]) : codeLaw Tryz.prog env101 200 (L101 N0 N1 N2) Tryz.f101 c101 [.int .u64] [.st [.int .u64, .int .u64, .int .u64, .int .u64]] x = law101 N0 N1 N2 x := by
  have h : codeLaw Tryz.prog env101 200 (L101 N0 N1 N2) Tryz.f101 c101 [.int .u64] [.st [.int .u64, .int .u64, .int .u64, .int .u64]] x = (ln101o0 N0 N1 N2 N0 (t101o0o6 N0 N1 N2 x) (h101o0o6 N0 N1 N2 x) (rk101o0 N0 N1 N2)) := by kernel_rfl
  rw [h]
  unfold law101
  simp only [decide_self, decide_true, Nat.zero_add, Bool.and_true, Bool.true_and, cond_true, leq101o2, leq101o2o1, rest101o2o1o0, rest101o2o0, leq101o1o2, leq101o2o3, leq101o2o4, rest101o2o3o0, leq101o1o5, rest101o1o5o0, rest101o1o2o0, leq101o0o6, rest101o0o6o0]
noncomputable def fn101 := law101 (10 ^ 30) (10 ^ 30) (10 ^ 30)
theorem reads101 : Reads Tryz.prog 101 [.int .u64] [.st [.int .u64, .int .u64, .int .u64, .int .u64]] fn101 := (Reads.of_code mixed (fn := Tryz.f101) (c := c101) Tryz.func101 (by kernel_rfl) (by kernel_rfl) env101 200 (L101_fit _ _ _) (by kernel_rfl)).to (eq101 _ _ _)
noncomputable def s101 : Summ Tryz.prog := reads101.summ
noncomputable def c95 : Code := (Tryz.f95.body.getD .skip)
noncomputable def env95 : Env Tryz.prog := ⟨[], none⟩
noncomputable def law95 (x : ((Int × Int × Int × Int × Unit) × (Int × Int × Int × Int × Unit) × Unit)) : Option ((Bool × Unit)) := (bif x.fst.snd.snd.snd.fst != x.snd.fst.snd.snd.snd.fst then some ((decide (x.fst.snd.snd.snd.fst < x.snd.fst.snd.snd.snd.fst), ())) else (bif x.fst.snd.snd.fst != x.snd.fst.snd.snd.fst then some ((decide (x.fst.snd.snd.fst < x.snd.fst.snd.snd.fst), ())) else (bif x.fst.snd.fst != x.snd.fst.snd.fst then some ((decide (x.fst.snd.fst < x.snd.fst.snd.fst), ())) else (bif x.fst.fst != x.snd.fst.fst then some ((decide (x.fst.fst < x.snd.fst.fst), ())) else some ((false, ()))))))
theorem eq95 (x : Sh.Ts [Sh.st [Sh.int u64, Sh.int u64, Sh.int u64, Sh.int u64], Sh.st [Sh.int u64, Sh.int u64, Sh.int u64, Sh.int u64]]) : codeLaw Tryz.prog env95 200 [] Tryz.f95 c95 [.st [.int .u64, .int .u64, .int .u64, .int .u64], .st [.int .u64, .int .u64, .int .u64, .int .u64]] [.bool] x = law95 x := by kernel_rfl
noncomputable def fn95 := law95
theorem reads95 : Reads Tryz.prog 95 [.st [.int .u64, .int .u64, .int .u64, .int .u64], .st [.int .u64, .int .u64, .int .u64, .int .u64]] [.bool] fn95 := (Reads.of_code mixed (fn := Tryz.f95) (c := c95) Tryz.func95 (by kernel_rfl) (by kernel_rfl) env95 200 Loops.fit_nil (by kernel_rfl)).to (eq95)
noncomputable def s95 : Summ Tryz.prog := reads95.summ
noncomputable def c97 : Code := (Tryz.f97.body.getD .skip)
noncomputable def env97 : Env Tryz.prog := ⟨[], none⟩
noncomputable def law97 (x : (NT × Unit)) : Option ((Bool × Unit)) := (bif x.fst.snd.fst.fst == 0 then (bif x.fst.snd.fst.snd.fst == 0 then (bif x.fst.snd.fst.snd.snd.fst == 0 then some ((x.fst.snd.fst.snd.snd.snd.fst == 0, ())) else some ((false, ()))) else some ((false, ()))) else some ((false, ())))
theorem eq97 (x : Sh.Ts [NSh]) : codeLaw Tryz.prog env97 200 [] Tryz.f97 c97 [NSh] [.bool] x = law97 x := by kernel_rfl
noncomputable def fn97 := law97
theorem reads97 : Reads Tryz.prog 97 [NSh] [.bool] fn97 := (Reads.of_code mixed (fn := Tryz.f97) (c := c97) Tryz.func97 (by kernel_rfl) (by kernel_rfl) env97 200 Loops.fit_nil (by kernel_rfl)).to (eq97)
noncomputable def s97 : Summ Tryz.prog := reads97.summ
noncomputable def c100 : Code := (Tryz.f100.body.getD .skip)
noncomputable def env100 : Env Tryz.prog := ⟨[s97], none⟩
noncomputable def law100 (x : (NT × Unit)) : Option ((Int × Unit)) := ((fn97 x).bind fun v0 => (bif v0.fst then some ((0, ())) else (bif x.fst.fst then some ((-1, ())) else some ((1, ())))))
theorem eq100 (x : Sh.Ts [NSh]) : codeLaw Tryz.prog env100 200 [] Tryz.f100 c100 [NSh] [.int .i64] x = law100 x := by kernel_rfl
noncomputable def fn100 := law100
theorem reads100 : Reads Tryz.prog 100 [NSh] [.int .i64] fn100 := (Reads.of_code mixed (fn := Tryz.f100) (c := c100) Tryz.func100 (by kernel_rfl) (by kernel_rfl) env100 200 Loops.fit_nil (by kernel_rfl)).to (eq100)
noncomputable def s100 : Summ Tryz.prog := reads100.summ
noncomputable def c90 : Code := (Tryz.f90.body.getD .skip)
noncomputable def env90 : Env Tryz.prog := ⟨[s100, s101, s95], none⟩
noncomputable def b90o0 : Code := ((kid ((subAt c90 [0, 1, 0, 1, 1, 1]).getD .skip) 0).getD .skip)
noncomputable def kx90o0 : Exit → List Nat | .ret => [2] | .exit 0 => [3] | _ => []
noncomputable def Li90o0 (N0 : Nat) : Loops Tryz.prog := []
noncomputable def ls90o0 (N0 : Nat) : LSumm Tryz.prog := loopSumm mixed env90 200 (Li90o0 N0) b90o0 (Loops.fit_nil) [1, 3, 4] kx90o0 (N0)
noncomputable def ln90o0 {β : Type} (N0 n : Nat) (t : List AV) (h : Heap) (K : Exit → List AV → Heap → Option β) : Option β := loopN Tryz.prog env90 (Sh.nes [NSh]) 200 (Li90o0 N0) b90o0 [1, 3, 4] kx90o0 n t h K
noncomputable def L90 (N0 : Nat) : Loops Tryz.prog := [([0, 1, 0, 1, 1, 1], ls90o0 N0)]
theorem L90_fit (N0 : Nat) : (L90 N0).fit c90 := Loops.fit_cons (by kernel_rfl) (Loops.fit_nil)
noncomputable def K90 : Exit → List AV → Heap → Option (Sh.Ts [.int .u64]) := fun e t h => outK (P := Tryz.prog) Tryz.f90 [.int .u64] e t h
noncomputable def rk90o0 (N0 : Nat) : Exit → List AV → Heap → Option (Sh.Ts [.int .u64]) := (blkK 0 (seqK Tryz.prog env90 (Sh.nes [NSh]) 196 (L90 N0) [1, 1, 1, 1] ((subAt c90 [1, 1, 1, 1]).getD .skip) K90))
noncomputable def t90o0 (N0 : Nat) (x : Sh.Ts [NSh]) (i10 i11 : Int) : List AV := [AV.any, AV.ptr 0 0, AV.any, vU i10, vI i11, AV.any, AV.any, AV.any, AV.any, AV.any, AV.any, AV.any, AV.any, AV.any, AV.any, AV.any, AV.any, AV.any, AV.any, AV.any, AV.any, AV.any, AV.any, AV.any, AV.any, AV.any]
noncomputable def h90o0 (N0 : Nat) (x : Sh.Ts [NSh]) (i10 i11 : Int) : Heap := [eL [vB x.fst.fst, vU x.fst.snd.fst.fst, vU x.fst.snd.fst.snd.fst, vU x.fst.snd.fst.snd.snd.fst, vU x.fst.snd.fst.snd.snd.snd.fst]]
noncomputable def tx90o0o0 (N0 : Nat) (x : Sh.Ts [NSh]) (w14 : Int) : List AV := [AV.any, AV.any, AV.any, vU w14, AV.any, AV.any, AV.any, AV.any, AV.any, AV.any, AV.any, AV.any, AV.any, AV.any, AV.any, AV.any, AV.any, AV.any, AV.any, AV.any, AV.any, AV.any, AV.any, AV.any, AV.any, AV.any]
noncomputable def hx90o0o0 (N0 : Nat) (x : Sh.Ts [NSh]) (w14 : Int) : Heap := []
noncomputable def law90o0 {β : Type} (N0 : Nat) (x : (NT × Unit)) (k0 : Int → Option β) : Nat → Int → Int → Option β
  | 0, _, _ => none
  | n + 1, i10, i11 => (bif decide (i11 ≥ 0) then (bif decide (0 ≤ u64.wrap i11) then ((fn101 (u64.wrap (i10 + u64.wrap (1 * 2 ^ min (u64.wrap i11).toNat 64)), ())).bind fun v12 => ((fn95 (x.fst.snd.fst, v12)).bind fun v13 => (bif !v13.fst then law90o0 N0 x k0 n (u64.wrap (i10 + u64.wrap (1 * 2 ^ min (u64.wrap i11).toNat 64))) (i64.wrap (i11 - 1)) else law90o0 N0 x k0 n i10 (i64.wrap (i11 - 1))))) else none) else k0 i10)
theorem leq90o0 {β : Type} (N0 : Nat) (x : Sh.Ts [NSh]) (K : Exit → List AV → Heap → Option β) : ∀ (n : Nat) (i10 i11 : Int), ln90o0 N0 n (t90o0 N0 x i10 i11) (h90o0 N0 x i10 i11) K = law90o0 N0 x (fun w14 => K (Exit.exit 0) (tx90o0o0 N0 x w14) (hx90o0o0 N0 x w14)) n i10 i11
  | 0, _, _ => rfl
  | n + 1, i10, i11 => by
    have h : ln90o0 N0 (n + 1) (t90o0 N0 x i10 i11) (h90o0 N0 x i10 i11) K = (bif decide (i11 ≥ 0) then (bif decide (0 ≤ u64.wrap i11) then ((fn101 (u64.wrap (i10 + u64.wrap (1 * 2 ^ min (u64.wrap i11).toNat 64)), ())).bind fun v12 => ((fn95 (x.fst.snd.fst, v12)).bind fun v13 => (bif !v13.fst then ln90o0 N0 n (t90o0 N0 x (u64.wrap (i10 + u64.wrap (1 * 2 ^ min (u64.wrap i11).toNat 64))) (i64.wrap (i11 - 1))) (h90o0 N0 x (u64.wrap (i10 + u64.wrap (1 * 2 ^ min (u64.wrap i11).toNat 64))) (i64.wrap (i11 - 1))) K else ln90o0 N0 n (t90o0 N0 x i10 (i64.wrap (i11 - 1))) (h90o0 N0 x i10 (i64.wrap (i11 - 1))) K))) else none) else K (Exit.exit 0) (tx90o0o0 N0 x i10) (hx90o0o0 N0 x i10)) := by kernel_rfl
    rw [h]
    simp only [decide_self, decide_true, Nat.zero_add, Bool.and_true, Bool.true_and, cond_true, law90o0, leq90o0 N0 x K n]
theorem rest90o0o0 (N0 : Nat) (x : Sh.Ts [NSh]) (w15 : Int) : rk90o0 N0 (Exit.exit 0) (tx90o0o0 N0 x w15) (hx90o0o0 N0 x w15) = some ((w15, ())) := by kernel_rfl
noncomputable def law90 (N0 : Nat) (x : (NT × Unit)) : Option ((Int × Unit)) := ((fn100 x).bind fun v0 => (bif decide (v0.fst ≤ 0) then some ((0, ())) else (law90o0 N0 x (fun w15 => some ((w15, ()))) N0 0 63)))
theorem eq90 (N0 : Nat) (x : Sh.Ts [NSh]) : codeLaw Tryz.prog env90 200 (L90 N0) Tryz.f90 c90 [NSh] [.int .u64] x = law90 N0 x := by
  have h : codeLaw Tryz.prog env90 200 (L90 N0) Tryz.f90 c90 [NSh] [.int .u64] x = ((fn100 x).bind fun v0 => (bif decide (v0.fst ≤ 0) then some ((0, ())) else (ln90o0 N0 N0 (t90o0 N0 x 0 63) (h90o0 N0 x 0 63) (rk90o0 N0)))) := by kernel_rfl
  rw [h]
  unfold law90
  simp only [decide_self, decide_true, Nat.zero_add, Bool.and_true, Bool.true_and, cond_true, leq90o0, rest90o0o0]
noncomputable def fn90 := law90 (10 ^ 30)
theorem reads90 : Reads Tryz.prog 90 [NSh] [.int .u64] fn90 := (Reads.of_code mixed (fn := Tryz.f90) (c := c90) Tryz.func90 (by kernel_rfl) (by kernel_rfl) env90 200 (L90_fit _) (by kernel_rfl)).to (eq90 _)
noncomputable def s90 : Summ Tryz.prog := reads90.summ
end Go.Proofs.YthlfckhjhagfaaaGreat
