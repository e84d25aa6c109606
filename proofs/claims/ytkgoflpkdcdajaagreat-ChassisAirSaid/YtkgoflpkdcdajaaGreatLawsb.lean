/- What functions of this program tell of their arguments: for each a law, and that the function keeps to it. -/
import Derived.Test.YtkgoflpkdcdajaaGreatLawsa
set_option linter.unusedVariables false
set_option linter.unusedSimpArgs false
set_option maxRecDepth 100000
namespace Go.Proofs.YtkgoflpkdcdajaaGreat
open Go Go.Ab Go.Proofs
/- slices.Concat[[]chicane/api.Fx,chicane/api.Fx] -/
noncomputable def c174 : Code := (Tryz.f174.body.getD .skip)
noncomputable def env174 : Env Tryz.prog := ⟨[s183], none⟩
noncomputable def b174o1 : Code := ((kid ((subAt c174 [0, 1, 0, 1, 1, 1, 1]).getD .skip) 0).getD .skip)
noncomputable def kx174o1 : Exit → List Nat | .ret => [2] | .exit 2 => [6] | _ => []
noncomputable def b174o0 : Code := ((kid ((subAt c174 [0, 1, 0, 1, 1]).getD .skip) 0).getD .skip)
noncomputable def kx174o0 : Exit → List Nat | .ret => [2] | .exit 0 => [0, 3] | _ => []
noncomputable def Li174o1 (N0 N1 : Nat) : Loops Tryz.prog := []
noncomputable def ls174o1 (N0 N1 : Nat) : LSumm Tryz.prog := loopSumm mixed env174 200 (Li174o1 N0 N1) b174o1 (Loops.fit_nil) [6, 25, 26, 27] kx174o1 (Nat.succ N1)
noncomputable def ln174o1 {β : Type} (N0 N1 : Nat) (n : Nat) (t : List AV) (h : Heap) (K : Exit → List AV → Heap → Option β) : Option β := loopN Tryz.prog env174 (Sh.nes [.rows (.int .i64)]) 200 (Li174o1 N0 N1) b174o1 [6, 25, 26, 27] kx174o1 n t h K
noncomputable def Li174o0 (N0 N1 : Nat) : Loops Tryz.prog := []
noncomputable def ls174o0 (N0 N1 : Nat) : LSumm Tryz.prog := loopSumm mixed env174 200 (Li174o0 N0 N1) b174o0 (Loops.fit_nil) [0, 3, 9, 10, 11] kx174o0 (Nat.succ N0)
noncomputable def ln174o0 {β : Type} (N0 N1 : Nat) (n : Nat) (t : List AV) (h : Heap) (K : Exit → List AV → Heap → Option β) : Option β := loopN Tryz.prog env174 (Sh.nes [.rows (.int .i64)]) 200 (Li174o0 N0 N1) b174o0 [0, 3, 9, 10, 11] kx174o0 n t h K
noncomputable def L174 (N0 N1 : Nat) : Loops Tryz.prog := [([0, 1, 0, 1, 1], ls174o0 N0 N1), ([0, 1, 0, 1, 1, 1, 1], ls174o1 N0 N1)]
theorem L174_fit (N0 N1 : Nat) : (L174 N0 N1).fit c174 := Loops.fit_cons (by kernel_rfl) (Loops.fit_cons (by kernel_rfl) (Loops.fit_nil))
noncomputable def K174 : Exit → List AV → Heap → Option (List (Sh.T (.int .i64))) := fun e t h => outF (P := Tryz.prog) Tryz.f174 (Sh.nes [.rows (.int .i64)]) (.int .i64) e t h
noncomputable def rk174o0 (N0 N1 : Nat) : Exit → List AV → Heap → Option (List (Sh.T (.int .i64))) := (blkK 0 (seqK Tryz.prog env174 (Sh.nes [.rows (.int .i64)]) 197 (L174 N0 N1) [1, 1, 1] ((subAt c174 [1, 1, 1]).getD .skip) K174))
noncomputable def rk174o1 (N0 N1 : Nat) : Exit → List AV → Heap → Option (List (Sh.T (.int .i64))) := (blkK 2 (seqK Tryz.prog env174 (Sh.nes [.rows (.int .i64)]) 195 (L174 N0 N1) [1, 1, 1, 1, 1] ((subAt c174 [1, 1, 1, 1, 1]).getD .skip) K174))
noncomputable def t174o0 (N0 : Nat) (N1 : Nat) (x : Sh.Ts [(Sh.int IntKind.i64).rows]) (i8 : Int) (i9 : Int) : List AV := [AV.slc 0 0 (List.length x.fst) Cap.low, AV.any, AV.any, AV.val (Value.int IntKind.i64 i8), AV.any, AV.any, AV.any, AV.any, AV.any, AV.slc 0 0 (List.length x.fst) Cap.low, AV.val (Value.int IntKind.i64 (↑(List.length x.fst) : Int)), AV.val (Value.int IntKind.i64 i9), AV.any, AV.any, AV.any, AV.any, AV.any, AV.any, AV.any, AV.any, AV.any, AV.any, AV.any, AV.any, AV.any, AV.any, AV.any, AV.any, AV.any, AV.any, AV.any, AV.any, AV.any, AV.any, AV.any, AV.any]
noncomputable def h174o0 (N0 : Nat) (N1 : Nat) (x : Sh.Ts [(Sh.int IntKind.i64).rows]) (i8 : Int) (i9 : Int) : Heap := [Ent.live (Blk.mk (Cells.arrs (Sh.int IntKind.i64) x.fst) false none)]
noncomputable def tx174o0o0 (N0 : Nat) (N1 : Nat) (x : Sh.Ts [(Sh.int IntKind.i64).rows]) (w11 : Int) : List AV := [AV.slc 0 0 (List.length x.fst) Cap.low, AV.any, AV.any, AV.val (Value.int IntKind.i64 w11), AV.any, AV.any, AV.any, AV.any, AV.any, AV.any, AV.any, AV.any, AV.any, AV.any, AV.any, AV.any, AV.any, AV.any, AV.any, AV.any, AV.any, AV.any, AV.any, AV.any, AV.any, AV.any, AV.any, AV.any, AV.any, AV.any, AV.any, AV.any, AV.any, AV.any, AV.any, AV.any]
noncomputable def hx174o0o0 (N0 : Nat) (N1 : Nat) (x : Sh.Ts [(Sh.int IntKind.i64).rows]) (w11 : Int) : Heap := [Ent.live (Blk.mk (Cells.arrs (Sh.int IntKind.i64) x.fst) false none)]
noncomputable def law174o0 {β : Type} (N0 : Nat) (N1 : Nat) (x : ((List (List Int)) × Unit)) (k0 : Int → Option β) : Nat → Int → Int → Option β
  | 0, _, _ => none
  | n + 1, i8, i9 => (bif decide (i9 < (↑(List.length x.fst) : Int)) then (bif decide (0 ≤ i9) && decide (i9 < (↑(List.length x.fst) : Int)) then (Option.bind x.fst[i9.toNat]? fun v10 => (bif decide (IntKind.i64.wrap (i8 + (↑v10.length : Int)) < 0) then none else law174o0 N0 N1 x k0 n (IntKind.i64.wrap (i8 + (↑v10.length : Int))) (IntKind.i64.wrap (i9 + 1)))) else none) else k0 i8)
theorem leq174o0 {β : Type} (N0 : Nat) (N1 : Nat) (x : Sh.Ts [(Sh.int IntKind.i64).rows]) (K : Exit → List AV → Heap → Option β) : ∀ (n : Nat) (i8 : Int) (i9 : Int), ln174o0 N0 N1 n (t174o0 N0 N1 x i8 i9) (h174o0 N0 N1 x i8 i9) K = law174o0 N0 N1 x (fun w11 => K (Exit.exit 0) (tx174o0o0 N0 N1 x w11) (hx174o0o0 N0 N1 x w11)) n i8 i9
  | 0, _, _ => rfl
  | n + 1, i8, i9 => by
    have h : ln174o0 N0 N1 (n + 1) (t174o0 N0 N1 x i8 i9) (h174o0 N0 N1 x i8 i9) K = (bif decide (i9 < (↑(List.length x.fst) : Int)) then (bif decide (0 ≤ i9) && decide (i9 < (↑(List.length x.fst) : Int)) then (Option.bind (x.fst[0 + i9.toNat]?) fun v10 => (bif decide (IntKind.i64.wrap (i8 + (↑v10.length : Int)) < 0) then none else ln174o0 N0 N1 n (t174o0 N0 N1 x (IntKind.i64.wrap (i8 + (↑v10.length : Int))) (IntKind.i64.wrap (i9 + 1))) (h174o0 N0 N1 x (IntKind.i64.wrap (i8 + (↑v10.length : Int))) (IntKind.i64.wrap (i9 + 1))) K)) else none) else K (Exit.exit 0) (tx174o0o0 N0 N1 x i8) (hx174o0o0 N0 N1 x i8)) := by kernel_rfl
    rw [h]
    simp only [decide_self, decide_true, Nat.zero_add, Bool.and_true, Bool.true_and, cond_true, law174o0, leq174o0 N0 N1 x K n]
noncomputable def t174o1o1 (N0 : Nat) (N1 : Nat) (x : Sh.Ts [(Sh.int IntKind.i64).rows]) (i21 : Nat) (i22 : Int) (i23 : List (Sh.int IntKind.i64).T) : List AV := [AV.any, AV.any, AV.any, AV.any, AV.any, AV.any, AV.slc 1 0 i21 Cap.unk, AV.any, AV.any, AV.any, AV.any, AV.any, AV.any, AV.any, AV.any, AV.any, AV.any, AV.any, AV.any, AV.any, AV.any, AV.any, AV.any, AV.any, AV.any, AV.slc 0 0 (List.length x.fst) Cap.low, AV.val (Value.int IntKind.i64 (↑(List.length x.fst) : Int)), AV.val (Value.int IntKind.i64 i22), AV.any, AV.any, AV.any, AV.any, AV.any, AV.any, AV.any, AV.any]
noncomputable def h174o1o1 (N0 : Nat) (N1 : Nat) (x : Sh.Ts [(Sh.int IntKind.i64).rows]) (i21 : Nat) (i22 : Int) (i23 : List (Sh.int IntKind.i64).T) : Heap := [Ent.live (Blk.mk (Cells.arrs (Sh.int IntKind.i64) x.fst) false none), Ent.live (Blk.mk (Cells.arr (Sh.int IntKind.i64) i23) true (some 1))]
noncomputable def tx174o1o1o0 (N0 : Nat) (N1 : Nat) (x : Sh.Ts [(Sh.int IntKind.i64).rows]) (w25 : Nat) (w26 : List (Sh.int IntKind.i64).T) : List AV := [AV.any, AV.any, AV.any, AV.any, AV.any, AV.any, AV.slc 1 0 w25 Cap.unk, AV.any, AV.any, AV.any, AV.any, AV.any, AV.any, AV.any, AV.any, AV.any, AV.any, AV.any, AV.any, AV.any, AV.any, AV.any, AV.any, AV.any, AV.any, AV.any, AV.any, AV.any, AV.any, AV.any, AV.any, AV.any, AV.any, AV.any, AV.any, AV.any]
noncomputable def hx174o1o1o0 (N0 : Nat) (N1 : Nat) (x : Sh.Ts [(Sh.int IntKind.i64).rows]) (w25 : Nat) (w26 : List (Sh.int IntKind.i64).T) : Heap := [Ent.live (Blk.mk (Cells.arrs (Sh.int IntKind.i64) x.fst) false none), Ent.live (Blk.mk (Cells.arr (Sh.int IntKind.i64) w26) true (some 1))]
noncomputable def law174o1o1 {β : Type} (N0 : Nat) (N1 : Nat) (x : ((List (List Int)) × Unit)) (k0 : Nat → List Int → Option β) : Nat → Nat → Int → List Int → Option β
  | 0, _, _, _ => none
  | n + 1, i21, i22, i23 => (bif decide (i22 < (↑(List.length x.fst) : Int)) then (bif decide (0 ≤ i22) && decide (i22 < (↑(List.length x.fst) : Int)) then (Option.bind x.fst[i22.toNat]? fun v24 => (bif decide (i21 = i23.length) && (decide ((i21 + v24.length) * Tryz.prog.types[22].bytes ≤ 140737488355328) && decide (i21 + v24.length ≤ 9223372036854775807)) then law174o1o1 N0 N1 x k0 n (i21 + v24.length) (IntKind.i64.wrap (i22 + 1)) (i23.append v24) else none)) else none) else k0 i21 i23)
theorem leq174o1o1 {β : Type} (N0 : Nat) (N1 : Nat) (x : Sh.Ts [(Sh.int IntKind.i64).rows]) (K : Exit → List AV → Heap → Option β) : ∀ (n : Nat) (i21 : Nat) (i22 : Int) (i23 : List (Sh.int IntKind.i64).T), ln174o1 N0 N1 n (t174o1o1 N0 N1 x i21 i22 i23) (h174o1o1 N0 N1 x i21 i22 i23) K = law174o1o1 N0 N1 x (fun w25 w26 => K (Exit.exit 2) (tx174o1o1o0 N0 N1 x w25 w26) (hx174o1o1o0 N0 N1 x w25 w26)) n i21 i22 i23
  | 0, _, _, _ => rfl
  | n + 1, i21, i22, i23 => by
    have h : ln174o1 N0 N1 (n + 1) (t174o1o1 N0 N1 x i21 i22 i23) (h174o1o1 N0 N1 x i21 i22 i23) K = (bif decide (i22 < (↑(List.length x.fst) : Int)) then (bif decide (0 ≤ i22) && decide (i22 < (↑(List.length x.fst) : Int)) then (Option.bind (x.fst[0 + i22.toNat]?) fun v24 => (bif decide (i21 = i23.length) && (decide (v24.length = v24.length) && (decide ((i21 + v24.length) * Tryz.prog.types[22].bytes ≤ 140737488355328) && decide (i21 + v24.length ≤ 9223372036854775807))) then ln174o1 N0 N1 n (t174o1o1 N0 N1 x (i21 + v24.length) (IntKind.i64.wrap (i22 + 1)) (i23.append v24)) (h174o1o1 N0 N1 x (i21 + v24.length) (IntKind.i64.wrap (i22 + 1)) (i23.append v24)) K else none)) else none) else K (Exit.exit 2) (tx174o1o1o0 N0 N1 x i21 i23) (hx174o1o1o0 N0 N1 x i21 i23)) := by kernel_rfl
    rw [h]
    simp only [decide_self, decide_true, Nat.zero_add, Bool.and_true, Bool.true_and, cond_true, law174o1o1, leq174o1o1 N0 N1 x K n, leq174o0]
noncomputable def t174o1o2 (N0 : Nat) (N1 : Nat) (x : Sh.Ts [(Sh.int IntKind.i64).rows]) (i37 : Nat) (i38 : Int) (i39 : List (Sh.int IntKind.i64).T) : List AV := [AV.any, AV.any, AV.any, AV.any, AV.any, AV.any, AV.slc 1 0 i37 Cap.unk, AV.any, AV.any, AV.any, AV.any, AV.any, AV.any, AV.any, AV.any, AV.any, AV.any, AV.any, AV.any, AV.any, AV.any, AV.any, AV.any, AV.any, AV.any, AV.slc 0 0 (List.length x.fst) Cap.low, AV.val (Value.int IntKind.i64 (↑(List.length x.fst) : Int)), AV.val (Value.int IntKind.i64 i38), AV.any, AV.any, AV.any, AV.any, AV.any, AV.any, AV.any, AV.any]
noncomputable def h174o1o2 (N0 : Nat) (N1 : Nat) (x : Sh.Ts [(Sh.int IntKind.i64).rows]) (i37 : Nat) (i38 : Int) (i39 : List (Sh.int IntKind.i64).T) : Heap := [Ent.live (Blk.mk (Cells.arrs (Sh.int IntKind.i64) x.fst) false none), Ent.live (Blk.mk (Cells.arr (Sh.int IntKind.i64) i39) true (some 1))]
noncomputable def tx174o1o2o0 (N0 : Nat) (N1 : Nat) (x : Sh.Ts [(Sh.int IntKind.i64).rows]) (w41 : Nat) (w42 : List (Sh.int IntKind.i64).T) : List AV := [AV.any, AV.any, AV.any, AV.any, AV.any, AV.any, AV.slc 1 0 w41 Cap.unk, AV.any, AV.any, AV.any, AV.any, AV.any, AV.any, AV.any, AV.any, AV.any, AV.any, AV.any, AV.any, AV.any, AV.any, AV.any, AV.any, AV.any, AV.any, AV.any, AV.any, AV.any, AV.any, AV.any, AV.any, AV.any, AV.any, AV.any, AV.any, AV.any]
noncomputable def hx174o1o2o0 (N0 : Nat) (N1 : Nat) (x : Sh.Ts [(Sh.int IntKind.i64).rows]) (w41 : Nat) (w42 : List (Sh.int IntKind.i64).T) : Heap := [Ent.live (Blk.mk (Cells.arrs (Sh.int IntKind.i64) x.fst) false none), Ent.live (Blk.mk (Cells.arr (Sh.int IntKind.i64) w42) true (some 1))]
noncomputable def law174o1o2 {β : Type} (N0 : Nat) (N1 : Nat) (x : ((List (List Int)) × Unit)) (k0 : Nat → List Int → Option β) : Nat → Nat → Int → List Int → Option β
  | 0, _, _, _ => none
  | n + 1, i37, i38, i39 => (bif decide (i38 < (↑(List.length x.fst) : Int)) then (bif decide (0 ≤ i38) && decide (i38 < (↑(List.length x.fst) : Int)) then (Option.bind x.fst[i38.toNat]? fun v40 => (bif decide (i37 = i39.length) && (decide ((i37 + v40.length) * Tryz.prog.types[22].bytes ≤ 140737488355328) && decide (i37 + v40.length ≤ 9223372036854775807)) then law174o1o2 N0 N1 x k0 n (i37 + v40.length) (IntKind.i64.wrap (i38 + 1)) (i39.append v40) else none)) else none) else k0 i37 i39)
theorem leq174o1o2 {β : Type} (N0 : Nat) (N1 : Nat) (x : Sh.Ts [(Sh.int IntKind.i64).rows]) (K : Exit → List AV → Heap → Option β) : ∀ (n : Nat) (i37 : Nat) (i38 : Int) (i39 : List (Sh.int IntKind.i64).T), ln174o1 N0 N1 n (t174o1o2 N0 N1 x i37 i38 i39) (h174o1o2 N0 N1 x i37 i38 i39) K = law174o1o2 N0 N1 x (fun w41 w42 => K (Exit.exit 2) (tx174o1o2o0 N0 N1 x w41 w42) (hx174o1o2o0 N0 N1 x w41 w42)) n i37 i38 i39
  | 0, _, _, _ => rfl
  | n + 1, i37, i38, i39 => by
    have h : ln174o1 N0 N1 (n + 1) (t174o1o2 N0 N1 x i37 i38 i39) (h174o1o2 N0 N1 x i37 i38 i39) K = (bif decide (i38 < (↑(List.length x.fst) : Int)) then (bif decide (0 ≤ i38) && decide (i38 < (↑(List.length x.fst) : Int)) then (Option.bind (x.fst[0 + i38.toNat]?) fun v40 => (bif decide (i37 = i39.length) && (decide (v40.length = v40.length) && (decide ((i37 + v40.length) * Tryz.prog.types[22].bytes ≤ 140737488355328) && decide (i37 + v40.length ≤ 9223372036854775807))) then ln174o1 N0 N1 n (t174o1o2 N0 N1 x (i37 + v40.length) (IntKind.i64.wrap (i38 + 1)) (i39.append v40)) (h174o1o2 N0 N1 x (i37 + v40.length) (IntKind.i64.wrap (i38 + 1)) (i39.append v40)) K else none)) else none) else K (Exit.exit 2) (tx174o1o2o0 N0 N1 x i37 i39) (hx174o1o2o0 N0 N1 x i37 i39)) := by kernel_rfl
    rw [h]
    simp only [decide_self, decide_true, Nat.zero_add, Bool.and_true, Bool.true_and, cond_true, law174o1o2, leq174o1o2 N0 N1 x K n, leq174o0, leq174o1o1]
noncomputable def t174o1o3 (N0 : Nat) (N1 : Nat) (x : Sh.Ts [(Sh.int IntKind.i64).rows]) (i53 : Nat) (i54 : Int) (i55 : List (Sh.int IntKind.i64).T) : List AV := [AV.any, AV.any, AV.any, AV.any, AV.any, AV.any, AV.slc 1 0 i53 Cap.unk, AV.any, AV.any, AV.any, AV.any, AV.any, AV.any, AV.any, AV.any, AV.any, AV.any, AV.any, AV.any, AV.any, AV.any, AV.any, AV.any, AV.any, AV.any, AV.slc 0 0 (List.length x.fst) Cap.low, AV.val (Value.int IntKind.i64 (↑(List.length x.fst) : Int)), AV.val (Value.int IntKind.i64 i54), AV.any, AV.any, AV.any, AV.any, AV.any, AV.any, AV.any, AV.any]
noncomputable def h174o1o3 (N0 : Nat) (N1 : Nat) (x : Sh.Ts [(Sh.int IntKind.i64).rows]) (i53 : Nat) (i54 : Int) (i55 : List (Sh.int IntKind.i64).T) : Heap := [Ent.live (Blk.mk (Cells.arrs (Sh.int IntKind.i64) x.fst) false none), Ent.live (Blk.mk (Cells.arr (Sh.int IntKind.i64) i55) true (some 1))]
noncomputable def tx174o1o3o0 (N0 : Nat) (N1 : Nat) (x : Sh.Ts [(Sh.int IntKind.i64).rows]) (w57 : Nat) (w58 : List (Sh.int IntKind.i64).T) : List AV := [AV.any, AV.any, AV.any, AV.any, AV.any, AV.any, AV.slc 1 0 w57 Cap.unk, AV.any, AV.any, AV.any, AV.any, AV.any, AV.any, AV.any, AV.any, AV.any, AV.any, AV.any, AV.any, AV.any, AV.any, AV.any, AV.any, AV.any, AV.any, AV.any, AV.any, AV.any, AV.any, AV.any, AV.any, AV.any, AV.any, AV.any, AV.any, AV.any]
noncomputable def hx174o1o3o0 (N0 : Nat) (N1 : Nat) (x : Sh.Ts [(Sh.int IntKind.i64).rows]) (w57 : Nat) (w58 : List (Sh.int IntKind.i64).T) : Heap := [Ent.live (Blk.mk (Cells.arrs (Sh.int IntKind.i64) x.fst) false none), Ent.live (Blk.mk (Cells.arr (Sh.int IntKind.i64) w58) true (some 1))]
noncomputable def law174o1o3 {β : Type} (N0 : Nat) (N1 : Nat) (x : ((List (List Int)) × Unit)) (k0 : Nat → List Int → Option β) : Nat → Nat → Int → List Int → Option β
  | 0, _, _, _ => none
  | n + 1, i53, i54, i55 => (bif decide (i54 < (↑(List.length x.fst) : Int)) then (bif decide (0 ≤ i54) && decide (i54 < (↑(List.length x.fst) : Int)) then (Option.bind x.fst[i54.toNat]? fun v56 => (bif decide (i53 = i55.length) && (decide ((i53 + v56.length) * Tryz.prog.types[22].bytes ≤ 140737488355328) && decide (i53 + v56.length ≤ 9223372036854775807)) then law174o1o3 N0 N1 x k0 n (i53 + v56.length) (IntKind.i64.wrap (i54 + 1)) (i55.append v56) else none)) else none) else k0 i53 i55)
theorem leq174o1o3 {β : Type} (N0 : Nat) (N1 : Nat) (x : Sh.Ts [(Sh.int IntKind.i64).rows]) (K : Exit → List AV → Heap → Option β) : ∀ (n : Nat) (i53 : Nat) (i54 : Int) (i55 : List (Sh.int IntKind.i64).T), ln174o1 N0 N1 n (t174o1o3 N0 N1 x i53 i54 i55) (h174o1o3 N0 N1 x i53 i54 i55) K = law174o1o3 N0 N1 x (fun w57 w58 => K (Exit.exit 2) (tx174o1o3o0 N0 N1 x w57 w58) (hx174o1o3o0 N0 N1 x w57 w58)) n i53 i54 i55
  | 0, _, _, _ => rfl
  | n + 1, i53, i54, i55 => by
    have h : ln174o1 N0 N1 (n + 1) (t174o1o3 N0 N1 x i53 i54 i55) (h174o1o3 N0 N1 x i53 i54 i55) K = (bif decide (i54 < (↑(List.length x.fst) : Int)) then (bif decide (0 ≤ i54) && decide (i54 < (↑(List.length x.fst) : Int)) then (Option.bind (x.fst[0 + i54.toNat]?) fun v56 => (bif decide (i53 = i55.length) && (decide (v56.length = v56.length) && (decide ((i53 + v56.length) * Tryz.prog.types[22].bytes ≤ 140737488355328) && decide (i53 + v56.length ≤ 9223372036854775807))) then ln174o1 N0 N1 n (t174o1o3 N0 N1 x (i53 + v56.length) (IntKind.i64.wrap (i54 + 1)) (i55.append v56)) (h174o1o3 N0 N1 x (i53 + v56.length) (IntKind.i64.wrap (i54 + 1)) (i55.append v56)) K else none)) else none) else K (Exit.exit 2) (tx174o1o3o0 N0 N1 x i53 i55) (hx174o1o3o0 N0 N1 x i53 i55)) := by kernel_rfl
    rw [h]
    simp only [decide_self, decide_true, Nat.zero_add, Bool.and_true, Bool.true_and, cond_true, law174o1o3, leq174o1o3 N0 N1 x K n, leq174o0, leq174o1o1, leq174o1o2]
theorem rest174o1o1o0 (N0 : Nat) (N1 : Nat) (x : Sh.Ts [(Sh.int IntKind.i64).rows]) (w27 : Nat) (w28 : List (Sh.int IntKind.i64).T) : rk174o1 N0 N1 (Exit.exit 2) (tx174o1o1o0 N0 N1 x w27 w28) (hx174o1o1o0 N0 N1 x w27 w28) = (bif decide (w27 = w28.length) then some w28 else none) := by kernel_rfl
theorem rest174o1o2o0 (N0 : Nat) (N1 : Nat) (x : Sh.Ts [(Sh.int IntKind.i64).rows]) (w43 : Nat) (w44 : List (Sh.int IntKind.i64).T) : rk174o1 N0 N1 (Exit.exit 2) (tx174o1o2o0 N0 N1 x w43 w44) (hx174o1o2o0 N0 N1 x w43 w44) = (bif decide (w43 = w44.length) then some w44 else none) := by kernel_rfl
theorem rest174o0o0 (N0 : Nat) (N1 : Nat) (x : Sh.Ts [(Sh.int IntKind.i64).rows]) (w12 : Int) : rk174o0 N0 N1 (Exit.exit 0) (tx174o0o0 N0 N1 x w12) (hx174o0o0 N0 N1 x w12) = (bif decide (w12 < 0) then none else (bif decide (IntKind.i64.wrap (w12 - IntKind.i64.wrap ((↑0 : Int) - (↑0 : Int))) > 0) then (bif decide (0 < IntKind.i64.wrap (w12 - IntKind.i64.wrap ((↑0 : Int) - (↑0 : Int)))) && (decide ((IntKind.i64.wrap (w12 - IntKind.i64.wrap ((↑0 : Int) - (↑0 : Int)))).toNat * Tryz.prog.types[22].bytes ≤ 140737488355328) && decide ((IntKind.i64.wrap (w12 - IntKind.i64.wrap ((↑0 : Int) - (↑0 : Int)))).toNat ≤ 9223372036854775807)) then (bif decide (0 < (↑(List.length x.fst) : Int)) then (bif decide (0 ≤ 0) && decide (0 < (↑(List.length x.fst) : Int)) then (Option.bind (x.fst[Int.toNat 0]?) fun v13 => (bif decide (((↑0 : Int).toNat + v13.length) * Tryz.prog.types[22].bytes ≤ 140737488355328) && decide ((↑0 : Int).toNat + v13.length ≤ 9223372036854775807) then (law174o1o1 N0 N1 x (fun w27 w28 => (bif decide (w27 = w28.length) then some w28 else none)) N1 ((↑0 : Int).toNat + v13.length) (IntKind.i64.wrap (0 + 1)) ([].append v13)) else none)) else none) else none) else none) else (bif decide (0 < (↑(List.length x.fst) : Int)) then (bif decide (0 ≤ 0) && decide (0 < (↑(List.length x.fst) : Int)) then (Option.bind (x.fst[Int.toNat 0]?) fun v29 => (bif (decide (0 = 0) || decide (0 < v29.length)) && (decide ((0 + v29.length) * Tryz.prog.types[22].bytes ≤ 140737488355328) && decide (0 + v29.length ≤ 9223372036854775807)) then (law174o1o2 N0 N1 x (fun w43 w44 => (bif decide (w43 = w44.length) then some w44 else none)) N1 (0 + v29.length) (IntKind.i64.wrap (0 + 1)) ([].append v29)) else none)) else none) else some []))) := by
  have h : rk174o0 N0 N1 (Exit.exit 0) (tx174o0o0 N0 N1 x w12) (hx174o0o0 N0 N1 x w12) = (bif decide (w12 < 0) then none else (bif decide (IntKind.i64.wrap (w12 - IntKind.i64.wrap ((↑0 : Int) - (↑0 : Int))) > 0) then (bif decide (0 < IntKind.i64.wrap (w12 - IntKind.i64.wrap ((↑0 : Int) - (↑0 : Int)))) && (decide ((IntKind.i64.wrap (w12 - IntKind.i64.wrap ((↑0 : Int) - (↑0 : Int)))).toNat * Tryz.prog.types[22].bytes ≤ 140737488355328) && decide ((IntKind.i64.wrap (w12 - IntKind.i64.wrap ((↑0 : Int) - (↑0 : Int)))).toNat ≤ 9223372036854775807)) then (bif decide (0 < (↑(List.length x.fst) : Int)) then (bif decide (0 ≤ 0) && decide (0 < (↑(List.length x.fst) : Int)) then (Option.bind (x.fst[0 + Int.toNat 0]?) fun v13 => (bif decide (v13.length = v13.length) && (decide (((↑0 : Int).toNat + v13.length) * Tryz.prog.types[22].bytes ≤ 140737488355328) && decide ((↑0 : Int).toNat + v13.length ≤ 9223372036854775807)) then (ln174o1 N0 N1 N1 (t174o1o1 N0 N1 x ((↑0 : Int).toNat + v13.length) (IntKind.i64.wrap (0 + 1)) ([].append v13)) (h174o1o1 N0 N1 x ((↑0 : Int).toNat + v13.length) (IntKind.i64.wrap (0 + 1)) ([].append v13)) (rk174o1 N0 N1)) else none)) else none) else none) else none) else (bif decide (0 < (↑(List.length x.fst) : Int)) then (bif decide (0 ≤ 0) && decide (0 < (↑(List.length x.fst) : Int)) then (Option.bind (x.fst[0 + Int.toNat 0]?) fun v29 => (bif decide (v29.length = v29.length) && ((decide (0 = 0) || decide (0 < v29.length)) && (decide ((0 + v29.length) * Tryz.prog.types[22].bytes ≤ 140737488355328) && decide (0 + v29.length ≤ 9223372036854775807))) then (ln174o1 N0 N1 N1 (t174o1o2 N0 N1 x (0 + v29.length) (IntKind.i64.wrap (0 + 1)) ([].append v29)) (h174o1o2 N0 N1 x (0 + v29.length) (IntKind.i64.wrap (0 + 1)) ([].append v29)) (rk174o1 N0 N1)) else none)) else none) else some []))) := by kernel_rfl
  rw [h]
  simp only [decide_self, decide_true, Nat.zero_add, Bool.and_true, Bool.true_and, cond_true, leq174o0, leq174o1o1, leq174o1o2, leq174o1o3, rest174o1o1o0, rest174o1o2o0]
theorem rest174o1o3o0 (N0 : Nat) (N1 : Nat) (x : Sh.Ts [(Sh.int IntKind.i64).rows]) (w59 : Nat) (w60 : List (Sh.int IntKind.i64).T) : rk174o1 N0 N1 (Exit.exit 2) (tx174o1o3o0 N0 N1 x w59 w60) (hx174o1o3o0 N0 N1 x w59 w60) = (bif decide (w59 = w60.length) then some w60 else none) := by kernel_rfl
noncomputable def law174 (N0 : Nat) (N1 : Nat) (x : ((List (List Int)) × Unit)) : Option (List Int) := (bif decide (0 < (↑(List.length x.fst) : Int)) then (bif decide (0 ≤ 0) && decide (0 < (↑(List.length x.fst) : Int)) then (Option.bind (x.fst[Int.toNat 0]?) fun v0 => (bif decide (IntKind.i64.wrap (0 + (↑v0.length : Int)) < 0) then none else (law174o0 N0 N1 x (fun w12 => (bif decide (w12 < 0) then none else (bif decide (IntKind.i64.wrap (w12 - IntKind.i64.wrap ((↑0 : Int) - (↑0 : Int))) > 0) then (bif decide (0 < IntKind.i64.wrap (w12 - IntKind.i64.wrap ((↑0 : Int) - (↑0 : Int)))) && (decide ((IntKind.i64.wrap (w12 - IntKind.i64.wrap ((↑0 : Int) - (↑0 : Int)))).toNat * Tryz.prog.types[22].bytes ≤ 140737488355328) && decide ((IntKind.i64.wrap (w12 - IntKind.i64.wrap ((↑0 : Int) - (↑0 : Int)))).toNat ≤ 9223372036854775807)) then (bif decide (0 < (↑(List.length x.fst) : Int)) then (bif decide (0 ≤ 0) && decide (0 < (↑(List.length x.fst) : Int)) then (Option.bind (x.fst[Int.toNat 0]?) fun v13 => (bif decide (((↑0 : Int).toNat + v13.length) * Tryz.prog.types[22].bytes ≤ 140737488355328) && decide ((↑0 : Int).toNat + v13.length ≤ 9223372036854775807) then (law174o1o1 N0 N1 x (fun w27 w28 => (bif decide (w27 = w28.length) then some w28 else none)) N1 ((↑0 : Int).toNat + v13.length) (IntKind.i64.wrap (0 + 1)) ([].append v13)) else none)) else none) else none) else none) else (bif decide (0 < (↑(List.length x.fst) : Int)) then (bif decide (0 ≤ 0) && decide (0 < (↑(List.length x.fst) : Int)) then (Option.bind (x.fst[Int.toNat 0]?) fun v29 => (bif (decide (0 = 0) || decide (0 < v29.length)) && (decide ((0 + v29.length) * Tryz.prog.types[22].bytes ≤ 140737488355328) && decide (0 + v29.length ≤ 9223372036854775807)) then (law174o1o2 N0 N1 x (fun w43 w44 => (bif decide (w43 = w44.length) then some w44 else none)) N1 (0 + v29.length) (IntKind.i64.wrap (0 + 1)) ([].append v29)) else none)) else none) else some [])))) N0 (IntKind.i64.wrap (0 + (↑v0.length : Int))) (IntKind.i64.wrap (0 + 1))))) else none) else (bif decide (0 < (↑(List.length x.fst) : Int)) then (bif decide (0 ≤ 0) && decide (0 < (↑(List.length x.fst) : Int)) then (Option.bind (x.fst[Int.toNat 0]?) fun v45 => (bif (decide (0 = 0) || decide (0 < v45.length)) && (decide ((0 + v45.length) * Tryz.prog.types[22].bytes ≤ 140737488355328) && decide (0 + v45.length ≤ 9223372036854775807)) then (law174o1o3 N0 N1 x (fun w59 w60 => (bif decide (w59 = w60.length) then some w60 else none)) N1 (0 + v45.length) (IntKind.i64.wrap (0 + 1)) ([].append v45)) else none)) else none) else some []))
theorem eq174 (N0 : Nat) (N1 : Nat) (x : Sh.Ts [(Sh.int IntKind.i64).rows]) : codeLawF Tryz.prog env174 200 (L174 N0 N1) Tryz.f174 c174 [.rows (.int .i64)] (.int .i64) x = law174 N0 N1 x := by
  have h : codeLawF Tryz.prog env174 200 (L174 N0 N1) Tryz.f174 c174 [.rows (.int .i64)] (.int .i64) x = (bif decide (0 < (↑(List.length x.fst) : Int)) then (bif decide (0 ≤ 0) && decide (0 < (↑(List.length x.fst) : Int)) then (Option.bind (x.fst[0 + Int.toNat 0]?) fun v0 => (bif decide (IntKind.i64.wrap (0 + (↑v0.length : Int)) < 0) then none else (ln174o0 N0 N1 N0 (t174o0 N0 N1 x (IntKind.i64.wrap (0 + (↑v0.length : Int))) (IntKind.i64.wrap (0 + 1))) (h174o0 N0 N1 x (IntKind.i64.wrap (0 + (↑v0.length : Int))) (IntKind.i64.wrap (0 + 1))) (rk174o0 N0 N1)))) else none) else (bif decide (0 < (↑(List.length x.fst) : Int)) then (bif decide (0 ≤ 0) && decide (0 < (↑(List.length x.fst) : Int)) then (Option.bind (x.fst[0 + Int.toNat 0]?) fun v45 => (bif decide (v45.length = v45.length) && ((decide (0 = 0) || decide (0 < v45.length)) && (decide ((0 + v45.length) * Tryz.prog.types[22].bytes ≤ 140737488355328) && decide (0 + v45.length ≤ 9223372036854775807))) then (ln174o1 N0 N1 N1 (t174o1o3 N0 N1 x (0 + v45.length) (IntKind.i64.wrap (0 + 1)) ([].append v45)) (h174o1o3 N0 N1 x (0 + v45.length) (IntKind.i64.wrap (0 + 1)) ([].append v45)) (rk174o1 N0 N1)) else none)) else none) else some [])) := by kernel_rfl
  rw [h]
  unfold law174
  simp only [decide_self, decide_true, Nat.zero_add, Bool.and_true, Bool.true_and, cond_true, leq174o0, leq174o1o1, leq174o1o2, leq174o1o3, rest174o1o1o0, rest174o1o2o0, rest174o0o0, rest174o1o3o0]
noncomputable def fn174 (x : ((List (List Int)) × Unit)) : Option (List (Int)) := law174 (10 ^ 30) (10 ^ 30) x
theorem reads174 : ReadsF Tryz.prog 174 [.rows (.int .i64)] (.int .i64) fn174 := (ReadsF.of_code mixed (fn := Tryz.f174) (c := c174) Tryz.func174 (by kernel_rfl) (by kernel_rfl) env174 200 (L174_fit _ _)).to (eq174 _ _)
noncomputable def s174 : Summ Tryz.prog := reads174.summ
/- slices.Min[[]chicane/api.Fx,chicane/api.Fx] -/
noncomputable def c175 : Code := (Tryz.f175.body.getD .skip)
noncomputable def env175 : Env Tryz.prog := ⟨[], none⟩
noncomputable def b175o0 : Code := ((kid ((subAt c175 [0, 1, 0, 1, 1, 1]).getD .skip) 0).getD .skip)
noncomputable def kx175o0 : Exit → List Nat | .ret => [2] | .exit 0 => [3] | _ => []
noncomputable def Li175o0 (N0 : Nat) : Loops Tryz.prog := []
noncomputable def ls175o0 (N0 : Nat) : LSumm Tryz.prog := loopSumm mixed env175 200 (Li175o0 N0) b175o0 (Loops.fit_nil) [0, 3, 4] kx175o0 (N0)
noncomputable def ln175o0 {β : Type} (N0 : Nat) (n : Nat) (t : List AV) (h : Heap) (K : Exit → List AV → Heap → Option β) : Option β := loopN Tryz.prog env175 (Sh.nes [.sl (.int .i64)]) 200 (Li175o0 N0) b175o0 [0, 3, 4] kx175o0 n t h K
noncomputable def L175 (N0 : Nat) : Loops Tryz.prog := [([0, 1, 0, 1, 1, 1], ls175o0 N0)]
theorem L175_fit (N0 : Nat) : (L175 N0).fit c175 := Loops.fit_cons (by kernel_rfl) (Loops.fit_nil)
noncomputable def K175 : Exit → List AV → Heap → Option (Sh.Ts [.int .i64]) := fun e t h => outK (P := Tryz.prog) Tryz.f175 [.int .i64] e t h
noncomputable def rk175o0 (N0 : Nat) : Exit → List AV → Heap → Option (Sh.Ts [.int .i64]) := (blkK 0 (seqK Tryz.prog env175 (Sh.nes [.sl (.int .i64)]) 196 (L175 N0) [1, 1, 1, 1] ((subAt c175 [1, 1, 1, 1]).getD .skip) K175))
noncomputable def t175o0 (N0 : Nat) (x : Sh.Ts [(Sh.int IntKind.i64).sl]) (i6 : (Sh.int IntKind.i64).T) (i7 : Int) : List AV := [AV.slc 0 0 (List.length x.fst) Cap.low, AV.any, AV.any, AV.val (Value.int IntKind.i64 i6), AV.val (Value.int IntKind.i64 i7), AV.any, AV.any, AV.any, AV.any, AV.any, AV.any, AV.any, AV.any, AV.any, AV.any, AV.any, AV.any, AV.any, AV.any, AV.any, AV.any, AV.any, AV.any, AV.any, AV.any]
noncomputable def h175o0 (N0 : Nat) (x : Sh.Ts [(Sh.int IntKind.i64).sl]) (i6 : (Sh.int IntKind.i64).T) (i7 : Int) : Heap := [Ent.live (Blk.mk (Cells.arr (Sh.int IntKind.i64) x.fst) false none)]
noncomputable def tx175o0o0 (N0 : Nat) (x : Sh.Ts [(Sh.int IntKind.i64).sl]) (w9 : (Sh.int IntKind.i64).T) : List AV := [AV.any, AV.any, AV.any, AV.val (Value.int IntKind.i64 w9), AV.any, AV.any, AV.any, AV.any, AV.any, AV.any, AV.any, AV.any, AV.any, AV.any, AV.any, AV.any, AV.any, AV.any, AV.any, AV.any, AV.any, AV.any, AV.any, AV.any, AV.any]
noncomputable def hx175o0o0 (N0 : Nat) (x : Sh.Ts [(Sh.int IntKind.i64).sl]) (w9 : (Sh.int IntKind.i64).T) : Heap := [Ent.live (Blk.mk (Cells.arr (Sh.int IntKind.i64) x.fst) false none)]
noncomputable def law175o0 {β : Type} (N0 : Nat) (x : ((List Int) × Unit)) (k0 : Int → Option β) : Nat → Int → Int → Option β
  | 0, _, _ => none
  | n + 1, i6, i7 => (bif decide (i7 < (↑(List.length x.fst) : Int)) then (bif decide (0 ≤ i7) && decide (i7 < (↑(List.length x.fst) : Int)) then (Option.bind x.fst[i7.toNat]? fun v8 => law175o0 N0 x k0 n (if v8 < i6 then v8 else i6) (IntKind.i64.wrap (i7 + 1))) else none) else k0 i6)
theorem leq175o0 {β : Type} (N0 : Nat) (x : Sh.Ts [(Sh.int IntKind.i64).sl]) (K : Exit → List AV → Heap → Option β) : ∀ (n : Nat) (i6 : (Sh.int IntKind.i64).T) (i7 : Int), ln175o0 N0 n (t175o0 N0 x i6 i7) (h175o0 N0 x i6 i7) K = law175o0 N0 x (fun w9 => K (Exit.exit 0) (tx175o0o0 N0 x w9) (hx175o0o0 N0 x w9)) n i6 i7
  | 0, _, _ => rfl
  | n + 1, i6, i7 => by
    have h : ln175o0 N0 (n + 1) (t175o0 N0 x i6 i7) (h175o0 N0 x i6 i7) K = (bif decide (i7 < (↑(List.length x.fst) : Int)) then (bif decide (0 ≤ i7) && decide (i7 < (↑(List.length x.fst) : Int)) then (Option.bind (x.fst[0 + i7.toNat]?) fun v8 => ln175o0 N0 n (t175o0 N0 x (if v8 < i6 then v8 else i6) (IntKind.i64.wrap (i7 + 1))) (h175o0 N0 x (if v8 < i6 then v8 else i6) (IntKind.i64.wrap (i7 + 1))) K) else none) else K (Exit.exit 0) (tx175o0o0 N0 x i6) (hx175o0o0 N0 x i6)) := by kernel_rfl
    rw [h]
    simp only [decide_self, decide_true, Nat.zero_add, Bool.and_true, Bool.true_and, cond_true, law175o0, leq175o0 N0 x K n]
theorem rest175o0o0 (N0 : Nat) (x : Sh.Ts [(Sh.int IntKind.i64).sl]) (w10 : (Sh.int IntKind.i64).T) : rk175o0 N0 (Exit.exit 0) (tx175o0o0 N0 x w10) (hx175o0o0 N0 x w10) = some ((w10, ())) := by kernel_rfl
noncomputable def law175 (N0 : Nat) (x : ((List Int) × Unit)) : Option ((Int × Unit)) := (bif decide ((↑(List.length x.fst) : Int) < 1) then none else (bif decide (0 ≤ 0) && decide (0 < (↑(List.length x.fst) : Int)) then (Option.bind (x.fst[Int.toNat 0]?) fun v0 => (law175o0 N0 x (fun w10 => some ((w10, ()))) N0 v0 1)) else none))
theorem eq175 (N0 : Nat) (x : Sh.Ts [(Sh.int IntKind.i64).sl]) : codeLaw Tryz.prog env175 200 (L175 N0) Tryz.f175 c175 [.sl (.int .i64)] [.int .i64] x = law175 N0 x := by
  have h : codeLaw Tryz.prog env175 200 (L175 N0) Tryz.f175 c175 [.sl (.int .i64)] [.int .i64] x = (bif decide ((↑(List.length x.fst) : Int) < 1) then none else (bif decide (0 ≤ 0) && decide (0 < (↑(List.length x.fst) : Int)) then (Option.bind (x.fst[0 + Int.toNat 0]?) fun v0 => (ln175o0 N0 N0 (t175o0 N0 x v0 1) (h175o0 N0 x v0 1) (rk175o0 N0))) else none)) := by kernel_rfl
  rw [h]
  unfold law175
  simp only [decide_self, decide_true, Nat.zero_add, Bool.and_true, Bool.true_and, cond_true, leq175o0, rest175o0o0]
noncomputable def fn175 (x : ((List Int) × Unit)) : Option ((Int × Unit)) := law175 (10 ^ 30) x
theorem reads175 : Reads Tryz.prog 175 [.sl (.int .i64)] [.int .i64] fn175 := (Reads.of_code mixed (fn := Tryz.f175) (c := c175) Tryz.func175 (by kernel_rfl) (by kernel_rfl) env175 200 (L175_fit _) (by kernel_rfl)).to (eq175 _)
noncomputable def s175 : Summ Tryz.prog := reads175.summ
/- slices.Max[[]chicane/api.Fx,chicane/api.Fx] -/
noncomputable def c176 : Code := (Tryz.f176.body.getD .skip)
noncomputable def env176 : Env Tryz.prog := ⟨[], none⟩
noncomputable def b176o0 : Code := ((kid ((subAt c176 [0, 1, 0, 1, 1, 1]).getD .skip) 0).getD .skip)
noncomputable def kx176o0 : Exit → List Nat | .ret => [2] | .exit 0 => [3] | _ => []
noncomputable def Li176o0 (N0 : Nat) : Loops Tryz.prog := []
noncomputable def ls176o0 (N0 : Nat) : LSumm Tryz.prog := loopSumm mixed env176 200 (Li176o0 N0) b176o0 (Loops.fit_nil) [0, 3, 4] kx176o0 (N0)
noncomputable def ln176o0 {β : Type} (N0 : Nat) (n : Nat) (t : List AV) (h : Heap) (K : Exit → List AV → Heap → Option β) : Option β := loopN Tryz.prog env176 (Sh.nes [.sl (.int .i64)]) 200 (Li176o0 N0) b176o0 [0, 3, 4] kx176o0 n t h K
noncomputable def L176 (N0 : Nat) : Loops Tryz.prog := [([0, 1, 0, 1, 1, 1], ls176o0 N0)]
theorem L176_fit (N0 : Nat) : (L176 N0).fit c176 := Loops.fit_cons (by kernel_rfl) (Loops.fit_nil)
noncomputable def K176 : Exit → List AV → Heap → Option (Sh.Ts [.int .i64]) := fun e t h => outK (P := Tryz.prog) Tryz.f176 [.int .i64] e t h
noncomputable def rk176o0 (N0 : Nat) : Exit → List AV → Heap → Option (Sh.Ts [.int .i64]) := (blkK 0 (seqK Tryz.prog env176 (Sh.nes [.sl (.int .i64)]) 196 (L176 N0) [1, 1, 1, 1] ((subAt c176 [1, 1, 1, 1]).getD .skip) K176))
noncomputable def t176o0 (N0 : Nat) (x : Sh.Ts [(Sh.int IntKind.i64).sl]) (i6 : (Sh.int IntKind.i64).T) (i7 : Int) : List AV := [AV.slc 0 0 (List.length x.fst) Cap.low, AV.any, AV.any, AV.val (Value.int IntKind.i64 i6), AV.val (Value.int IntKind.i64 i7), AV.any, AV.any, AV.any, AV.any, AV.any, AV.any, AV.any, AV.any, AV.any, AV.any, AV.any, AV.any, AV.any, AV.any, AV.any, AV.any, AV.any, AV.any, AV.any, AV.any]
noncomputable def h176o0 (N0 : Nat) (x : Sh.Ts [(Sh.int IntKind.i64).sl]) (i6 : (Sh.int IntKind.i64).T) (i7 : Int) : Heap := [Ent.live (Blk.mk (Cells.arr (Sh.int IntKind.i64) x.fst) false none)]
noncomputable def tx176o0o0 (N0 : Nat) (x : Sh.Ts [(Sh.int IntKind.i64).sl]) (w9 : (Sh.int IntKind.i64).T) : List AV := [AV.any, AV.any, AV.any, AV.val (Value.int IntKind.i64 w9), AV.any, AV.any, AV.any, AV.any, AV.any, AV.any, AV.any, AV.any, AV.any, AV.any, AV.any, AV.any, AV.any, AV.any, AV.any, AV.any, AV.any, AV.any, AV.any, AV.any, AV.any]
noncomputable def hx176o0o0 (N0 : Nat) (x : Sh.Ts [(Sh.int IntKind.i64).sl]) (w9 : (Sh.int IntKind.i64).T) : Heap := [Ent.live (Blk.mk (Cells.arr (Sh.int IntKind.i64) x.fst) false none)]
noncomputable def law176o0 {β : Type} (N0 : Nat) (x : ((List Int) × Unit)) (k0 : Int → Option β) : Nat → Int → Int → Option β
  | 0, _, _ => none
  | n + 1, i6, i7 => (bif decide (i7 < (↑(List.length x.fst) : Int)) then (bif decide (0 ≤ i7) && decide (i7 < (↑(List.length x.fst) : Int)) then (Option.bind x.fst[i7.toNat]? fun v8 => law176o0 N0 x k0 n (if v8 > i6 then v8 else i6) (IntKind.i64.wrap (i7 + 1))) else none) else k0 i6)
theorem leq176o0 {β : Type} (N0 : Nat) (x : Sh.Ts [(Sh.int IntKind.i64).sl]) (K : Exit → List AV → Heap → Option β) : ∀ (n : Nat) (i6 : (Sh.int IntKind.i64).T) (i7 : Int), ln176o0 N0 n (t176o0 N0 x i6 i7) (h176o0 N0 x i6 i7) K = law176o0 N0 x (fun w9 => K (Exit.exit 0) (tx176o0o0 N0 x w9) (hx176o0o0 N0 x w9)) n i6 i7
  | 0, _, _ => rfl
  | n + 1, i6, i7 => by
    have h : ln176o0 N0 (n + 1) (t176o0 N0 x i6 i7) (h176o0 N0 x i6 i7) K = (bif decide (i7 < (↑(List.length x.fst) : Int)) then (bif decide (0 ≤ i7) && decide (i7 < (↑(List.length x.fst) : Int)) then (Option.bind (x.fst[0 + i7.toNat]?) fun v8 => ln176o0 N0 n (t176o0 N0 x (if v8 > i6 then v8 else i6) (IntKind.i64.wrap (i7 + 1))) (h176o0 N0 x (if v8 > i6 then v8 else i6) (IntKind.i64.wrap (i7 + 1))) K) else none) else K (Exit.exit 0) (tx176o0o0 N0 x i6) (hx176o0o0 N0 x i6)) := by kernel_rfl
    rw [h]
    simp only [decide_self, decide_true, Nat.zero_add, Bool.and_true, Bool.true_and, cond_true, law176o0, leq176o0 N0 x K n]
theorem rest176o0o0 (N0 : Nat) (x : Sh.Ts [(Sh.int IntKind.i64).sl]) (w10 : (Sh.int IntKind.i64).T) : rk176o0 N0 (Exit.exit 0) (tx176o0o0 N0 x w10) (hx176o0o0 N0 x w10) = some ((w10, ())) := by kernel_rfl
noncomputable def law176 (N0 : Nat) (x : ((List Int) × Unit)) : Option ((Int × Unit)) := (bif decide ((↑(List.length x.fst) : Int) < 1) then none else (bif decide (0 ≤ 0) && decide (0 < (↑(List.length x.fst) : Int)) then (Option.bind (x.fst[Int.toNat 0]?) fun v0 => (law176o0 N0 x (fun w10 => some ((w10, ()))) N0 v0 1)) else none))
theorem eq176 (N0 : Nat) (x : Sh.Ts [(Sh.int IntKind.i64).sl]) : codeLaw Tryz.prog env176 200 (L176 N0) Tryz.f176 c176 [.sl (.int .i64)] [.int .i64] x = law176 N0 x := by
  have h : codeLaw Tryz.prog env176 200 (L176 N0) Tryz.f176 c176 [.sl (.int .i64)] [.int .i64] x = (bif decide ((↑(List.length x.fst) : Int) < 1) then none else (bif decide (0 ≤ 0) && decide (0 < (↑(List.length x.fst) : Int)) then (Option.bind (x.fst[0 + Int.toNat 0]?) fun v0 => (ln176o0 N0 N0 (t176o0 N0 x v0 1) (h176o0 N0 x v0 1) (rk176o0 N0))) else none)) := by kernel_rfl
  rw [h]
  unfold law176
  simp only [decide_self, decide_true, Nat.zero_add, Bool.and_true, Bool.true_and, cond_true, leq176o0, rest176o0o0]
noncomputable def fn176 (x : ((List Int) × Unit)) : Option ((Int × Unit)) := law176 (10 ^ 30) x
theorem reads176 : Reads Tryz.prog 176 [.sl (.int .i64)] [.int .i64] fn176 := (Reads.of_code mixed (fn := Tryz.f176) (c := c176) Tryz.func176 (by kernel_rfl) (by kernel_rfl) env176 200 (L176_fit _) (by kernel_rfl)).to (eq176 _)
noncomputable def s176 : Summ Tryz.prog := reads176.summ
/- chicane/pane.Bounds -/
noncomputable def c155 : Code := (Tryz.f155.body.getD .skip)
noncomputable def env155 : Env Tryz.prog := ⟨[s154, s174, s175, s176], none⟩
noncomputable def L155 : Loops Tryz.prog := []
theorem L155_fit : (L155).fit c155 := Loops.fit_nil
noncomputable def law155 (x : (PaneT × Unit)) : Option ((Int × Int × Unit)) := (Option.bind (fn154 x) fun v0 => (bif v0.fst != 0 then some ((0, 0, ())) else (Option.bind (fn174 x.fst.snd.snd) fun v1 => (Option.bind (fn175 (v1, ())) fun v2 => (Option.bind (fn176 (v1, ())) fun v3 => some ((v2.fst, v3.fst, ())))))))
theorem eq155 (x : Sh.Ts [PaneSh]) : codeLaw Tryz.prog env155 200 (L155) Tryz.f155 c155 [PaneSh] [.int .i64, .int .i64] x = law155 x := by
  have h : codeLaw Tryz.prog env155 200 (L155) Tryz.f155 c155 [PaneSh] [.int .i64, .int .i64] x = (bif decide (List.length x.fst.fst = List.length x.fst.fst) && (decide (List.length x.fst.snd.fst = List.length x.fst.snd.fst) && (decide (List.length x.fst.snd.snd.fst = List.length x.fst.snd.snd.fst) && true)) && true then (Option.bind (fn154 x) fun v0 => (bif v0.fst != 0 then some ((0, 0, ())) else (bif decide (List.length x.fst.snd.snd.fst = List.length x.fst.snd.snd.fst) && true then (Option.bind (fn174 x.fst.snd.snd) fun v1 => (bif decide (v1.length = v1.length) && true then (Option.bind (fn175 (v1, ())) fun v2 => (bif decide (v1.length = v1.length) && true then (Option.bind (fn176 (v1, ())) fun v3 => some ((v2.fst, v3.fst, ()))) else none)) else none)) else none))) else none) := by kernel_rfl
  rw [h]
  unfold law155
  simp only [decide_self, decide_true, Nat.zero_add, Bool.and_true, Bool.true_and, cond_true]
noncomputable def fn155 (x : (PaneT × Unit)) : Option ((Int × Int × Unit)) := law155 x
theorem reads155 : Reads Tryz.prog 155 [PaneSh] [.int .i64, .int .i64] fn155 := (Reads.of_code mixed (fn := Tryz.f155) (c := c155) Tryz.func155 (by kernel_rfl) (by kernel_rfl) env155 200 (L155_fit) (by kernel_rfl)).to (eq155)
noncomputable def s155 : Summ Tryz.prog := reads155.summ
/- chicane/car.tyre -/
noncomputable def c136 : Code := (Tryz.f136.body.getD .skip)
noncomputable def env136 : Env Tryz.prog := ⟨[s154, s155, s133], none⟩
noncomputable def L136 : Loops Tryz.prog := []
theorem L136_fit : (L136).fit c136 := Loops.fit_nil
noncomputable def law136 (x : (PaneT × Unit)) : Option ((Int × Unit)) := (Option.bind (fn154 x) fun v0 => (bif v0.fst != 0 then some ((v0.fst, ())) else (Option.bind (fn155 x) fun v1 => (bif decide (0 ≤ 0) && decide (0 < (↑(List.length x.fst.fst) : Int)) then (Option.bind (x.fst.fst[Int.toNat 0]?) fun v2 => (bif decide (0 ≤ 0) && decide (0 < (↑(List.length x.fst.snd.fst) : Int)) then (Option.bind (x.fst.snd.fst[Int.toNat 0]?) fun v3 => (Option.bind (fn133 ([(if v1.fst < if v3 < v2 then v3 else v2 then v1.fst else if v3 < v2 then v3 else v2, 0, 18014398509481984, ()), (v1.snd.fst, 0, 17179869184, ())], ())) fun v4 => some ((v4.fst, ())))) else none)) else none))))
theorem eq136 (x : Sh.Ts [PaneSh]) : codeLaw Tryz.prog env136 200 (L136) Tryz.f136 c136 [PaneSh] [.int .i64] x = law136 x := by
  have h : codeLaw Tryz.prog env136 200 (L136) Tryz.f136 c136 [PaneSh] [.int .i64] x = (bif decide (List.length x.fst.fst = List.length x.fst.fst) && (decide (List.length x.fst.snd.fst = List.length x.fst.snd.fst) && (decide (List.length x.fst.snd.snd.fst = List.length x.fst.snd.snd.fst) && true)) && true then (Option.bind (fn154 x) fun v0 => (bif v0.fst != 0 then some ((v0.fst, ())) else (bif decide (List.length x.fst.fst = List.length x.fst.fst) && (decide (List.length x.fst.snd.fst = List.length x.fst.snd.fst) && (decide (List.length x.fst.snd.snd.fst = List.length x.fst.snd.snd.fst) && true)) && true then (Option.bind (fn155 x) fun v1 => (bif decide (0 ≤ 0) && decide (0 < (↑(List.length x.fst.fst) : Int)) then (Option.bind (x.fst.fst[0 + Int.toNat 0]?) fun v2 => (bif decide (0 ≤ 0) && decide (0 < (↑(List.length x.fst.snd.fst) : Int)) then (Option.bind (x.fst.snd.fst[0 + Int.toNat 0]?) fun v3 => (Option.bind (fn133 ([(if v1.fst < if v3 < v2 then v3 else v2 then v1.fst else if v3 < v2 then v3 else v2, 0, 18014398509481984, ()), (v1.snd.fst, 0, 17179869184, ())], ())) fun v4 => some ((v4.fst, ())))) else none)) else none)) else none))) else none) := by kernel_rfl
  rw [h]
  unfold law136
  simp only [decide_self, decide_true, Nat.zero_add, Bool.and_true, Bool.true_and, cond_true]
noncomputable def fn136 (x : (PaneT × Unit)) : Option ((Int × Unit)) := law136 x
theorem reads136 : Reads Tryz.prog 136 [PaneSh] [.int .i64] fn136 := (Reads.of_code mixed (fn := Tryz.f136) (c := c136) Tryz.func136 (by kernel_rfl) (by kernel_rfl) env136 200 (L136_fit) (by kernel_rfl)).to (eq136)
noncomputable def s136 : Summ Tryz.prog := reads136.summ
/- chicane/car.above -/
noncomputable def c157 : Code := (Tryz.f157.body.getD .skip)
noncomputable def env157 : Env Tryz.prog := ⟨[], none⟩
noncomputable def L157 : Loops Tryz.prog := []
theorem L157_fit : (L157).fit c157 := Loops.fit_nil
noncomputable def law157 (x : (Int × Int × Unit)) : Option ((Int × Unit)) := (bif decide (x.fst ≤ x.snd.fst) then some ((41, ())) else some ((0, ())))
theorem eq157 (x : Sh.Ts [Sh.int IntKind.i64, Sh.int IntKind.i64]) : codeLaw Tryz.prog env157 200 (L157) Tryz.f157 c157 [.int .i64, .int .i64] [.int .i64] x = law157 x := by kernel_rfl
noncomputable def fn157 (x : (Int × Int × Unit)) : Option ((Int × Unit)) := law157 x
theorem reads157 : Reads Tryz.prog 157 [.int .i64, .int .i64] [.int .i64] fn157 := (Reads.of_code mixed (fn := Tryz.f157) (c := c157) Tryz.func157 (by kernel_rfl) (by kernel_rfl) env157 200 (L157_fit) (by kernel_rfl)).to (eq157)
noncomputable def s157 : Summ Tryz.prog := reads157.summ
/- chicane/car.first -/
noncomputable def c156 : Code := (Tryz.f156.body.getD .skip)
noncomputable def env156 : Env Tryz.prog := ⟨[], none⟩
noncomputable def b156o0 : Code := ((kid ((subAt c156 [0, 1, 0, 1]).getD .skip) 0).getD .skip)
noncomputable def kx156o0 : Exit → List Nat | .ret => [2] | _ => []
noncomputable def Li156o0 (N0 : Nat) : Loops Tryz.prog := []
noncomputable def ls156o0 (N0 : Nat) : LSumm Tryz.prog := loopSumm mixed env156 200 (Li156o0 N0) b156o0 (Loops.fit_nil) [5, 6, 7] kx156o0 (N0)
noncomputable def ln156o0 {β : Type} (N0 : Nat) (n : Nat) (t : List AV) (h : Heap) (K : Exit → List AV → Heap → Option β) : Option β := loopN Tryz.prog env156 (Sh.nes [.sl (.int .i64)]) 200 (Li156o0 N0) b156o0 [5, 6, 7] kx156o0 n t h K
noncomputable def L156 (N0 : Nat) : Loops Tryz.prog := [([0, 1, 0, 1], ls156o0 N0)]
theorem L156_fit (N0 : Nat) : (L156 N0).fit c156 := Loops.fit_cons (by kernel_rfl) (Loops.fit_nil)
noncomputable def K156 : Exit → List AV → Heap → Option (Sh.Ts [.int .i64]) := fun e t h => outK (P := Tryz.prog) Tryz.f156 [.int .i64] e t h
noncomputable def rk156o0 (N0 : Nat) : Exit → List AV → Heap → Option (Sh.Ts [.int .i64]) := (blkK 0 (seqK Tryz.prog env156 (Sh.nes [.sl (.int .i64)]) 198 (L156 N0) [1, 1] ((subAt c156 [1, 1]).getD .skip) K156))
noncomputable def t156o0 (N0 : Nat) (x : Sh.Ts [(Sh.int IntKind.i64).sl]) (i5 : Int) : List AV := [AV.any, AV.any, AV.any, AV.any, AV.any, AV.slc 0 0 (List.length x.fst) Cap.low, AV.val (Value.int IntKind.i64 (↑(List.length x.fst) : Int)), AV.val (Value.int IntKind.i64 i5), AV.any, AV.any, AV.any, AV.any, AV.any, AV.any, AV.any]
noncomputable def h156o0 (N0 : Nat) (x : Sh.Ts [(Sh.int IntKind.i64).sl]) (i5 : Int) : Heap := [Ent.live (Blk.mk (Cells.arr (Sh.int IntKind.i64) x.fst) false none)]
noncomputable def tx156o0o0 (N0 : Nat) (x : Sh.Ts [(Sh.int IntKind.i64).sl]) (w7 : (Sh.int IntKind.i64).T) : List AV := [AV.any, AV.any, AV.val (Value.int IntKind.i64 w7), AV.any, AV.any, AV.any, AV.any, AV.any, AV.any, AV.any, AV.any, AV.any, AV.any, AV.any, AV.any]
noncomputable def hx156o0o0 (N0 : Nat) (x : Sh.Ts [(Sh.int IntKind.i64).sl]) (w7 : (Sh.int IntKind.i64).T) : Heap := [Ent.live (Blk.mk (Cells.arr (Sh.int IntKind.i64) x.fst) false none)]
noncomputable def tx156o0o1 (N0 : Nat) (x : Sh.Ts [(Sh.int IntKind.i64).sl]) : List AV := [AV.any, AV.any, AV.any, AV.any, AV.any, AV.any, AV.any, AV.any, AV.any, AV.any, AV.any, AV.any, AV.any, AV.any, AV.any]
noncomputable def hx156o0o1 (N0 : Nat) (x : Sh.Ts [(Sh.int IntKind.i64).sl]) : Heap := [Ent.live (Blk.mk (Cells.arr (Sh.int IntKind.i64) x.fst) false none)]
noncomputable def law156o0 {β : Type} (N0 : Nat) (x : ((List Int) × Unit)) (k0 : Int → Option β) (k1 : Option β) : Nat → Int → Option β
  | 0, _ => none
  | n + 1, i5 => (bif decide (i5 < (↑(List.length x.fst) : Int)) then (bif decide (0 ≤ i5) && decide (i5 < (↑(List.length x.fst) : Int)) then (Option.bind x.fst[i5.toNat]? fun v6 => (bif v6 != 0 then k0 v6 else law156o0 N0 x k0 k1 n (IntKind.i64.wrap (i5 + 1)))) else none) else k1)
theorem leq156o0 {β : Type} (N0 : Nat) (x : Sh.Ts [(Sh.int IntKind.i64).sl]) (K : Exit → List AV → Heap → Option β) : ∀ (n : Nat) (i5 : Int), ln156o0 N0 n (t156o0 N0 x i5) (h156o0 N0 x i5) K = law156o0 N0 x (fun w7 => K (Exit.ret) (tx156o0o0 N0 x w7) (hx156o0o0 N0 x w7)) (K (Exit.exit 0) (tx156o0o1 N0 x) (hx156o0o1 N0 x)) n i5
  | 0, _ => rfl
  | n + 1, i5 => by
    have h : ln156o0 N0 (n + 1) (t156o0 N0 x i5) (h156o0 N0 x i5) K = (bif decide (i5 < (↑(List.length x.fst) : Int)) then (bif decide (0 ≤ i5) && decide (i5 < (↑(List.length x.fst) : Int)) then (Option.bind (x.fst[0 + i5.toNat]?) fun v6 => (bif v6 != 0 then K (Exit.ret) (tx156o0o0 N0 x v6) (hx156o0o0 N0 x v6) else ln156o0 N0 n (t156o0 N0 x (IntKind.i64.wrap (i5 + 1))) (h156o0 N0 x (IntKind.i64.wrap (i5 + 1))) K)) else none) else K (Exit.exit 0) (tx156o0o1 N0 x) (hx156o0o1 N0 x)) := by kernel_rfl
    rw [h]
    simp only [decide_self, decide_true, Nat.zero_add, Bool.and_true, Bool.true_and, cond_true, law156o0, leq156o0 N0 x K n]
theorem rest156o0o0 (N0 : Nat) (x : Sh.Ts [(Sh.int IntKind.i64).sl]) (w8 : (Sh.int IntKind.i64).T) : rk156o0 N0 (Exit.ret) (tx156o0o0 N0 x w8) (hx156o0o0 N0 x w8) = some ((w8, ())) := by kernel_rfl
theorem rest156o0o1 (N0 : Nat) (x : Sh.Ts [(Sh.int IntKind.i64).sl]) : rk156o0 N0 (Exit.exit 0) (tx156o0o1 N0 x) (hx156o0o1 N0 x) = some ((0, ())) := by kernel_rfl
noncomputable def law156 (N0 : Nat) (x : ((List Int) × Unit)) : Option ((Int × Unit)) := (law156o0 N0 x (fun w8 => some ((w8, ()))) (some ((0, ()))) N0 0)
theorem eq156 (N0 : Nat) (x : Sh.Ts [(Sh.int IntKind.i64).sl]) : codeLaw Tryz.prog env156 200 (L156 N0) Tryz.f156 c156 [.sl (.int .i64)] [.int .i64] x = law156 N0 x := by
  have h : codeLaw Tryz.prog env156 200 (L156 N0) Tryz.f156 c156 [.sl (.int .i64)] [.int .i64] x = (ln156o0 N0 N0 (t156o0 N0 x 0) (h156o0 N0 x 0) (rk156o0 N0)) := by kernel_rfl
  rw [h]
  unfold law156
  simp only [decide_self, decide_true, Nat.zero_add, Bool.and_true, Bool.true_and, cond_true, leq156o0, rest156o0o0, rest156o0o1]
noncomputable def fn156 (x : ((List Int) × Unit)) : Option ((Int × Unit)) := law156 (10 ^ 30) x
theorem reads156 : Reads Tryz.prog 156 [.sl (.int .i64)] [.int .i64] fn156 := (Reads.of_code mixed (fn := Tryz.f156) (c := c156) Tryz.func156 (by kernel_rfl) (by kernel_rfl) env156 200 (L156_fit _) (by kernel_rfl)).to (eq156 _)
noncomputable def s156 : Summ Tryz.prog := reads156.summ
/- chicane/car.engine -/
noncomputable def c138 : Code := (Tryz.f138.body.getD .skip)
noncomputable def env138 : Env Tryz.prog := ⟨[s133, s157, s156], none⟩
noncomputable def L138 : Loops Tryz.prog := []
theorem L138_fit : (L138).fit c138 := Loops.fit_nil
noncomputable def law138 (x : (CarT × Unit)) : Option ((Int × Unit)) := (Option.bind (fn133 ([(x.fst.snd.snd.snd.snd.snd.snd.snd.snd.fst, 0, 17179869184, ()), (x.fst.snd.snd.snd.snd.snd.snd.snd.snd.snd.fst, 67108864, 68719476736, ()), (x.fst.snd.snd.snd.snd.snd.snd.snd.snd.snd.snd.fst, 137438953472, 2199023255552, ()), (x.fst.snd.snd.snd.snd.snd.snd.snd.snd.snd.snd.snd.fst, 274877906944, 8796093022208, ()), (x.fst.snd.snd.snd.snd.snd.snd.snd.snd.snd.snd.snd.snd.fst, 0, 4294967296, ()), (x.fst.snd.snd.snd.snd.snd.snd.snd.snd.snd.snd.snd.snd.snd.fst, 4294967296, 1099511627776, ()), (x.fst.snd.snd.snd.snd.snd.snd.snd.snd.snd.snd.snd.snd.snd.snd.fst, 0, 17592186044416, ())], ())) fun v0 => (Option.bind (fn157 (x.fst.snd.snd.snd.snd.snd.snd.snd.snd.snd.snd.snd.fst, x.fst.snd.snd.snd.snd.snd.snd.snd.snd.snd.snd.fst, ())) fun v1 => (Option.bind (fn156 ([v0.fst, v1.fst], ())) fun v2 => some ((v2.fst, ())))))
theorem eq138 (x : Sh.Ts [CarSh]) : codeLaw Tryz.prog env138 200 (L138) Tryz.f138 c138 [CarSh] [.int .i64] x = law138 x := by kernel_rfl
noncomputable def fn138 (x : (CarT × Unit)) : Option ((Int × Unit)) := law138 x
theorem reads138 : Reads Tryz.prog 138 [CarSh] [.int .i64] fn138 := (Reads.of_code mixed (fn := Tryz.f138) (c := c138) Tryz.func138 (by kernel_rfl) (by kernel_rfl) env138 200 (L138_fit) (by kernel_rfl)).to (eq138)
noncomputable def s138 : Summ Tryz.prog := reads138.summ
/- chicane/car.gears -/
noncomputable def c139 : Code := (Tryz.f139.body.getD .skip)
noncomputable def env139 : Env Tryz.prog := ⟨[s133], none⟩
noncomputable def b139o0 : Code := ((kid ((subAt c139 [0, 1, 0, 1, 1, 1]).getD .skip) 0).getD .skip)
noncomputable def kx139o0 : Exit → List Nat | .ret => [2] | .exit 0 => [3] | _ => []
noncomputable def Li139o0 (N0 : Nat) : Loops Tryz.prog := []
noncomputable def ls139o0 (N0 : Nat) : LSumm Tryz.prog := loopSumm mixed env139 200 (Li139o0 N0) b139o0 (Loops.fit_nil) [3, 24, 25, 26] kx139o0 (Nat.succ N0)
noncomputable def ln139o0 {β : Type} (N0 : Nat) (n : Nat) (t : List AV) (h : Heap) (K : Exit → List AV → Heap → Option β) : Option β := loopN Tryz.prog env139 (Sh.nes [CarSh]) 200 (Li139o0 N0) b139o0 [3, 24, 25, 26] kx139o0 n t h K
noncomputable def L139 (N0 : Nat) : Loops Tryz.prog := [([0, 1, 0, 1, 1, 1], ls139o0 N0)]
theorem L139_fit (N0 : Nat) : (L139 N0).fit c139 := Loops.fit_cons (by kernel_rfl) (Loops.fit_nil)
noncomputable def K139 : Exit → List AV → Heap → Option (Sh.Ts [.int .i64]) := fun e t h => outK (P := Tryz.prog) Tryz.f139 [.int .i64] e t h
noncomputable def rk139o0 (N0 : Nat) : Exit → List AV → Heap → Option (Sh.Ts [.int .i64]) := (blkK 0 (seqK Tryz.prog env139 (Sh.nes [CarSh]) 196 (L139 N0) [1, 1, 1, 1] ((subAt c139 [1, 1, 1, 1]).getD .skip) K139))
noncomputable def t139o0 (N0 : Nat) (x : Sh.Ts [CarSh]) (i14 : Nat) (i15 : Int) (i16 : List (Sh.st [Sh.int IntKind.i64, Sh.int IntKind.i64, Sh.int IntKind.i64]).T) : List AV := [AV.any, AV.any, AV.any, AV.slc 7 0 i14 Cap.unk, AV.any, AV.any, AV.any, AV.any, AV.any, AV.any, AV.any, AV.any, AV.any, AV.any, AV.any, AV.any, AV.any, AV.any, AV.any, AV.any, AV.any, AV.any, AV.any, AV.any, AV.slc 6 0 (List.length x.fst.snd.snd.snd.snd.snd.snd.snd.snd.snd.snd.snd.snd.snd.snd.snd.snd.fst) Cap.low, AV.val (Value.int IntKind.i64 (↑(List.length x.fst.snd.snd.snd.snd.snd.snd.snd.snd.snd.snd.snd.snd.snd.snd.snd.snd.fst) : Int)), AV.val (Value.int IntKind.i64 i15), AV.any, AV.any, AV.any, AV.any, AV.any, AV.any, AV.any, AV.any, AV.any, AV.any, AV.any]
noncomputable def h139o0 (N0 : Nat) (x : Sh.Ts [CarSh]) (i14 : Nat) (i15 : Int) (i16 : List (Sh.st [Sh.int IntKind.i64, Sh.int IntKind.i64, Sh.int IntKind.i64]).T) : Heap := [Ent.live (Blk.mk (Cells.arr (Sh.st [Sh.int IntKind.i64, Sh.int IntKind.i64]) x.fst.snd.snd.snd.snd.fst) false none), Ent.live (Blk.mk (Cells.arr (Sh.int IntKind.i64) x.fst.snd.snd.snd.snd.snd.fst.fst) false none), Ent.live (Blk.mk (Cells.arr (Sh.int IntKind.i64) x.fst.snd.snd.snd.snd.snd.fst.snd.fst) false none), Ent.live (Blk.mk (Cells.arrs (Sh.int IntKind.i64) x.fst.snd.snd.snd.snd.snd.fst.snd.snd.fst) false none), Ent.live (Blk.mk (Cells.arr (Sh.st [Sh.int IntKind.i64, Sh.int IntKind.i64]) x.fst.snd.snd.snd.snd.snd.snd.fst) false none), Ent.live (Blk.mk (Cells.arr (Sh.st [Sh.int IntKind.i64, Sh.int IntKind.i64]) x.fst.snd.snd.snd.snd.snd.snd.snd.fst) false none), Ent.live (Blk.mk (Cells.arr (Sh.int IntKind.i64) x.fst.snd.snd.snd.snd.snd.snd.snd.snd.snd.snd.snd.snd.snd.snd.snd.snd.fst) false none), Ent.live (Blk.mk (Cells.arr (Sh.st [Sh.int IntKind.i64, Sh.int IntKind.i64, Sh.int IntKind.i64]) i16) true (some 3))]
noncomputable def tx139o0o0 (N0 : Nat) (x : Sh.Ts [CarSh]) (w18 : Nat) (w19 : List (Sh.st [Sh.int IntKind.i64, Sh.int IntKind.i64, Sh.int IntKind.i64]).T) : List AV := [AV.any, AV.any, AV.any, AV.slc 7 0 w18 Cap.unk, AV.any, AV.any, AV.any, AV.any, AV.any, AV.any, AV.any, AV.any, AV.any, AV.any, AV.any, AV.any, AV.any, AV.any, AV.any, AV.any, AV.any, AV.any, AV.any, AV.any, AV.any, AV.any, AV.any, AV.any, AV.any, AV.any, AV.any, AV.any, AV.any, AV.any, AV.any, AV.any, AV.any, AV.any]
noncomputable def hx139o0o0 (N0 : Nat) (x : Sh.Ts [CarSh]) (w18 : Nat) (w19 : List (Sh.st [Sh.int IntKind.i64, Sh.int IntKind.i64, Sh.int IntKind.i64]).T) : Heap := [Ent.live (Blk.mk (Cells.arr (Sh.st [Sh.int IntKind.i64, Sh.int IntKind.i64]) x.fst.snd.snd.snd.snd.fst) false none), Ent.live (Blk.mk (Cells.arr (Sh.int IntKind.i64) x.fst.snd.snd.snd.snd.snd.fst.fst) false none), Ent.live (Blk.mk (Cells.arr (Sh.int IntKind.i64) x.fst.snd.snd.snd.snd.snd.fst.snd.fst) false none), Ent.live (Blk.mk (Cells.arrs (Sh.int IntKind.i64) x.fst.snd.snd.snd.snd.snd.fst.snd.snd.fst) false none), Ent.live (Blk.mk (Cells.arr (Sh.st [Sh.int IntKind.i64, Sh.int IntKind.i64]) x.fst.snd.snd.snd.snd.snd.snd.fst) false none), Ent.live (Blk.mk (Cells.arr (Sh.st [Sh.int IntKind.i64, Sh.int IntKind.i64]) x.fst.snd.snd.snd.snd.snd.snd.snd.fst) false none), Ent.live (Blk.mk (Cells.arr (Sh.int IntKind.i64) x.fst.snd.snd.snd.snd.snd.snd.snd.snd.snd.snd.snd.snd.snd.snd.snd.snd.fst) false none), Ent.live (Blk.mk (Cells.arr (Sh.st [Sh.int IntKind.i64, Sh.int IntKind.i64, Sh.int IntKind.i64]) w19) true (some 3))]
noncomputable def law139o0 {β : Type} (N0 : Nat) (x : (CarT × Unit)) (k0 : Nat → List (Int × Int × Int × Unit) → Option β) : Nat → Nat → Int → List (Int × Int × Int × Unit) → Option β
  | 0, _, _, _ => none
  | n + 1, i14, i15, i16 => (bif decide (i15 < (↑(List.length x.fst.snd.snd.snd.snd.snd.snd.snd.snd.snd.snd.snd.snd.snd.snd.snd.snd.fst) : Int)) then (bif decide (0 ≤ i15) && decide (i15 < (↑(List.length x.fst.snd.snd.snd.snd.snd.snd.snd.snd.snd.snd.snd.snd.snd.snd.snd.snd.fst) : Int)) then (Option.bind x.fst.snd.snd.snd.snd.snd.snd.snd.snd.snd.snd.snd.snd.snd.snd.snd.snd.fst[i15.toNat]? fun v17 => (bif decide (i14 = i16.length) && (decide ((i14 + 1) * Tryz.prog.types[165].bytes ≤ 140737488355328) && decide (i14 + 1 ≤ 9223372036854775807)) then law139o0 N0 x k0 n (i14 + 1) (IntKind.i64.wrap (i15 + 1)) (i16.append [(v17, 1073741824, 137438953472, ())]) else none)) else none) else k0 i14 i16)
theorem leq139o0 {β : Type} (N0 : Nat) (x : Sh.Ts [CarSh]) (K : Exit → List AV → Heap → Option β) : ∀ (n : Nat) (i14 : Nat) (i15 : Int) (i16 : List (Sh.st [Sh.int IntKind.i64, Sh.int IntKind.i64, Sh.int IntKind.i64]).T), ln139o0 N0 n (t139o0 N0 x i14 i15 i16) (h139o0 N0 x i14 i15 i16) K = law139o0 N0 x (fun w18 w19 => K (Exit.exit 0) (tx139o0o0 N0 x w18 w19) (hx139o0o0 N0 x w18 w19)) n i14 i15 i16
  | 0, _, _, _ => rfl
  | n + 1, i14, i15, i16 => by
    have h : ln139o0 N0 (n + 1) (t139o0 N0 x i14 i15 i16) (h139o0 N0 x i14 i15 i16) K = (bif decide (i15 < (↑(List.length x.fst.snd.snd.snd.snd.snd.snd.snd.snd.snd.snd.snd.snd.snd.snd.snd.snd.fst) : Int)) then (bif decide (0 ≤ i15) && decide (i15 < (↑(List.length x.fst.snd.snd.snd.snd.snd.snd.snd.snd.snd.snd.snd.snd.snd.snd.snd.snd.fst) : Int)) then (Option.bind (x.fst.snd.snd.snd.snd.snd.snd.snd.snd.snd.snd.snd.snd.snd.snd.snd.snd.fst[0 + i15.toNat]?) fun v17 => (bif decide (i14 = i16.length) && (decide ((i14 + 1) * Tryz.prog.types[165].bytes ≤ 140737488355328) && decide (i14 + 1 ≤ 9223372036854775807)) then ln139o0 N0 n (t139o0 N0 x (i14 + 1) (IntKind.i64.wrap (i15 + 1)) (i16.append [(v17, 1073741824, 137438953472, ())])) (h139o0 N0 x (i14 + 1) (IntKind.i64.wrap (i15 + 1)) (i16.append [(v17, 1073741824, 137438953472, ())])) K else none)) else none) else K (Exit.exit 0) (tx139o0o0 N0 x i14 i16) (hx139o0o0 N0 x i14 i16)) := by kernel_rfl
    rw [h]
    simp only [decide_self, decide_true, Nat.zero_add, Bool.and_true, Bool.true_and, cond_true, law139o0, leq139o0 N0 x K n]
theorem rest139o0o0 (N0 : Nat) (x : Sh.Ts [CarSh]) (w20 : Nat) (w21 : List (Sh.st [Sh.int IntKind.i64, Sh.int IntKind.i64, Sh.int IntKind.i64]).T) : rk139o0 N0 (Exit.exit 0) (tx139o0o0 N0 x w20 w21) (hx139o0o0 N0 x w20 w21) = (bif decide (w20 = w21.length) then (Option.bind (fn133 (w21, ())) fun v22 => some ((v22.fst, ()))) else none) := by
  have h : rk139o0 N0 (Exit.exit 0) (tx139o0o0 N0 x w20 w21) (hx139o0o0 N0 x w20 w21) = (bif decide (w20 = w21.length) && true then (Option.bind (fn133 (w21, ())) fun v22 => some ((v22.fst, ()))) else none) := by kernel_rfl
  rw [h]
  simp only [decide_self, decide_true, Nat.zero_add, Bool.and_true, Bool.true_and, cond_true, leq139o0]
noncomputable def law139 (N0 : Nat) (x : (CarT × Unit)) : Option ((Int × Unit)) := (bif decide ((↑(List.length x.fst.snd.snd.snd.snd.snd.snd.snd.snd.snd.snd.snd.snd.snd.snd.snd.snd.fst) : Int) < 1) then some ((42, ())) else (bif decide ((↑(List.length x.fst.snd.snd.snd.snd.snd.snd.snd.snd.snd.snd.snd.snd.snd.snd.snd.snd.fst) : Int) > 8) then some ((42, ())) else (bif decide (0 < (↑(List.length x.fst.snd.snd.snd.snd.snd.snd.snd.snd.snd.snd.snd.snd.snd.snd.snd.snd.fst) : Int)) then (bif decide (0 ≤ 0) && decide (0 < (↑(List.length x.fst.snd.snd.snd.snd.snd.snd.snd.snd.snd.snd.snd.snd.snd.snd.snd.snd.fst) : Int)) then (Option.bind (x.fst.snd.snd.snd.snd.snd.snd.snd.snd.snd.snd.snd.snd.snd.snd.snd.snd.fst[Int.toNat 0]?) fun v0 => (law139o0 N0 x (fun w20 w21 => (bif decide (w20 = w21.length) then (Option.bind (fn133 (w21, ())) fun v22 => some ((v22.fst, ()))) else none)) N0 3 (IntKind.i64.wrap (0 + 1)) ([(x.fst.snd.snd.snd.snd.snd.snd.snd.snd.snd.snd.snd.snd.snd.snd.snd.fst, 1073741824, 137438953472, ()), (x.fst.snd.snd.snd.snd.snd.snd.snd.snd.snd.snd.snd.snd.snd.snd.snd.snd.snd.fst, 2147483648, 68719476736, ()), (v0, 1073741824, 137438953472, ())]))) else none) else (Option.bind (fn133 ([(x.fst.snd.snd.snd.snd.snd.snd.snd.snd.snd.snd.snd.snd.snd.snd.snd.fst, 1073741824, 137438953472, ()), (x.fst.snd.snd.snd.snd.snd.snd.snd.snd.snd.snd.snd.snd.snd.snd.snd.snd.snd.fst, 2147483648, 68719476736, ())], ())) fun v23 => some ((v23.fst, ()))))))
theorem eq139 (N0 : Nat) (x : Sh.Ts [CarSh]) : codeLaw Tryz.prog env139 200 (L139 N0) Tryz.f139 c139 [CarSh] [.int .i64] x = law139 N0 x := by
  have h : codeLaw Tryz.prog env139 200 (L139 N0) Tryz.f139 c139 [CarSh] [.int .i64] x = (bif decide ((↑(List.length x.fst.snd.snd.snd.snd.snd.snd.snd.snd.snd.snd.snd.snd.snd.snd.snd.snd.fst) : Int) < 1) then some ((42, ())) else (bif decide ((↑(List.length x.fst.snd.snd.snd.snd.snd.snd.snd.snd.snd.snd.snd.snd.snd.snd.snd.snd.fst) : Int) > 8) then some ((42, ())) else (bif decide (0 < (↑(List.length x.fst.snd.snd.snd.snd.snd.snd.snd.snd.snd.snd.snd.snd.snd.snd.snd.snd.fst) : Int)) then (bif decide (0 ≤ 0) && decide (0 < (↑(List.length x.fst.snd.snd.snd.snd.snd.snd.snd.snd.snd.snd.snd.snd.snd.snd.snd.snd.fst) : Int)) then (Option.bind (x.fst.snd.snd.snd.snd.snd.snd.snd.snd.snd.snd.snd.snd.snd.snd.snd.snd.fst[0 + Int.toNat 0]?) fun v0 => (ln139o0 N0 N0 (t139o0 N0 x 3 (IntKind.i64.wrap (0 + 1)) ([(x.fst.snd.snd.snd.snd.snd.snd.snd.snd.snd.snd.snd.snd.snd.snd.snd.fst, 1073741824, 137438953472, ()), (x.fst.snd.snd.snd.snd.snd.snd.snd.snd.snd.snd.snd.snd.snd.snd.snd.snd.snd.fst, 2147483648, 68719476736, ()), (v0, 1073741824, 137438953472, ())])) (h139o0 N0 x 3 (IntKind.i64.wrap (0 + 1)) ([(x.fst.snd.snd.snd.snd.snd.snd.snd.snd.snd.snd.snd.snd.snd.snd.snd.fst, 1073741824, 137438953472, ()), (x.fst.snd.snd.snd.snd.snd.snd.snd.snd.snd.snd.snd.snd.snd.snd.snd.snd.snd.fst, 2147483648, 68719476736, ()), (v0, 1073741824, 137438953472, ())])) (rk139o0 N0))) else none) else (Option.bind (fn133 ([(x.fst.snd.snd.snd.snd.snd.snd.snd.snd.snd.snd.snd.snd.snd.snd.snd.fst, 1073741824, 137438953472, ()), (x.fst.snd.snd.snd.snd.snd.snd.snd.snd.snd.snd.snd.snd.snd.snd.snd.snd.snd.fst, 2147483648, 68719476736, ())], ())) fun v23 => some ((v23.fst, ())))))) := by kernel_rfl
  rw [h]
  unfold law139
  simp only [decide_self, decide_true, Nat.zero_add, Bool.and_true, Bool.true_and, cond_true, leq139o0, rest139o0o0]
noncomputable def fn139 (x : (CarT × Unit)) : Option ((Int × Unit)) := law139 (10 ^ 30) x
theorem reads139 : Reads Tryz.prog 139 [CarSh] [.int .i64] fn139 := (Reads.of_code mixed (fn := Tryz.f139) (c := c139) Tryz.func139 (by kernel_rfl) (by kernel_rfl) env139 200 (L139_fit _) (by kernel_rfl)).to (eq139 _)
noncomputable def s139 : Summ Tryz.prog := reads139.summ
/- chicane/car.rest -/
noncomputable def c140 : Code := (Tryz.f140.body.getD .skip)
noncomputable def env140 : Env Tryz.prog := ⟨[s133], none⟩
noncomputable def L140 : Loops Tryz.prog := []
theorem L140_fit : (L140).fit c140 := Loops.fit_nil
noncomputable def law140 (x : (CarT × Unit)) : Option ((Int × Unit)) := (bif x.fst.snd.snd.snd.snd.snd.snd.snd.snd.snd.snd.snd.snd.snd.snd.snd.snd.snd.snd.fst == 0 then (bif x.fst.snd.snd.snd.snd.snd.snd.snd.snd.snd.snd.snd.snd.snd.snd.snd.snd.snd.snd.fst == 0 then (Option.bind (fn133 ([(x.fst.snd.snd.snd.snd.snd.snd.snd.snd.snd.snd.snd.snd.snd.snd.snd.snd.snd.snd.snd.fst, 0, 281474976710656, ()), (x.fst.snd.snd.snd.snd.snd.snd.snd.snd.snd.snd.snd.snd.snd.snd.snd.snd.snd.snd.snd.snd.fst, 0, 70368744177664, ()), (x.fst.snd.snd.snd.snd.snd.snd.snd.snd.snd.snd.snd.snd.snd.snd.snd.snd.snd.snd.snd.snd.snd.fst, 0, 70368744177664, ()), (x.fst.snd.snd.snd.snd.snd.snd.snd.snd.snd.snd.snd.snd.snd.snd.snd.snd.snd.snd.snd.snd.snd.snd.fst, 0, 4294967296, ()), (IntKind.i64.wrap x.fst.snd.snd.snd.snd.snd.snd.snd.snd.snd.snd.snd.snd.snd.snd.snd.snd.snd.snd.snd.snd.snd.snd.snd.fst, 0, 536870912, ()), (IntKind.i64.wrap x.fst.snd.snd.snd.snd.snd.snd.snd.snd.snd.snd.snd.snd.snd.snd.snd.snd.snd.snd.snd.snd.snd.snd.snd.snd.fst, 0, 2147483648, ())], ())) fun v0 => some ((v0.fst, ()))) else some ((40, ()))) else (bif x.fst.snd.snd.snd.snd.snd.snd.snd.snd.snd.snd.snd.snd.snd.snd.snd.snd.snd.snd.fst == 1 then (bif x.fst.snd.snd.snd.snd.snd.snd.snd.snd.snd.snd.snd.snd.snd.snd.snd.snd.snd.snd.fst == 1 then (Option.bind (fn133 ([(x.fst.snd.snd.snd.snd.snd.snd.snd.snd.snd.snd.snd.snd.snd.snd.snd.snd.snd.snd.snd.fst, 0, 281474976710656, ()), (x.fst.snd.snd.snd.snd.snd.snd.snd.snd.snd.snd.snd.snd.snd.snd.snd.snd.snd.snd.snd.snd.fst, 0, 70368744177664, ()), (x.fst.snd.snd.snd.snd.snd.snd.snd.snd.snd.snd.snd.snd.snd.snd.snd.snd.snd.snd.snd.snd.snd.fst, 0, 70368744177664, ()), (x.fst.snd.snd.snd.snd.snd.snd.snd.snd.snd.snd.snd.snd.snd.snd.snd.snd.snd.snd.snd.snd.snd.snd.fst, 0, 4294967296, ()), (IntKind.i64.wrap x.fst.snd.snd.snd.snd.snd.snd.snd.snd.snd.snd.snd.snd.snd.snd.snd.snd.snd.snd.snd.snd.snd.snd.snd.fst, 0, 536870912, ()), (IntKind.i64.wrap x.fst.snd.snd.snd.snd.snd.snd.snd.snd.snd.snd.snd.snd.snd.snd.snd.snd.snd.snd.snd.snd.snd.snd.snd.snd.fst, 0, 2147483648, ())], ())) fun v1 => some ((v1.fst, ()))) else some ((40, ()))) else (bif x.fst.snd.snd.snd.snd.snd.snd.snd.snd.snd.snd.snd.snd.snd.snd.snd.snd.snd.snd.fst == 2 then (Option.bind (fn133 ([(x.fst.snd.snd.snd.snd.snd.snd.snd.snd.snd.snd.snd.snd.snd.snd.snd.snd.snd.snd.snd.fst, 0, 281474976710656, ()), (x.fst.snd.snd.snd.snd.snd.snd.snd.snd.snd.snd.snd.snd.snd.snd.snd.snd.snd.snd.snd.snd.fst, 0, 70368744177664, ()), (x.fst.snd.snd.snd.snd.snd.snd.snd.snd.snd.snd.snd.snd.snd.snd.snd.snd.snd.snd.snd.snd.snd.fst, 0, 70368744177664, ()), (x.fst.snd.snd.snd.snd.snd.snd.snd.snd.snd.snd.snd.snd.snd.snd.snd.snd.snd.snd.snd.snd.snd.snd.fst, 0, 4294967296, ()), (IntKind.i64.wrap x.fst.snd.snd.snd.snd.snd.snd.snd.snd.snd.snd.snd.snd.snd.snd.snd.snd.snd.snd.snd.snd.snd.snd.snd.fst, 0, 536870912, ()), (IntKind.i64.wrap x.fst.snd.snd.snd.snd.snd.snd.snd.snd.snd.snd.snd.snd.snd.snd.snd.snd.snd.snd.snd.snd.snd.snd.snd.snd.fst, 0, 2147483648, ())], ())) fun v2 => some ((v2.fst, ()))) else some ((40, ())))))
theorem eq140 (x : Sh.Ts [CarSh]) : codeLaw Tryz.prog env140 200 (L140) Tryz.f140 c140 [CarSh] [.int .i64] x = law140 x := by kernel_rfl
noncomputable def fn140 (x : (CarT × Unit)) : Option ((Int × Unit)) := law140 x
theorem reads140 : Reads Tryz.prog 140 [CarSh] [.int .i64] fn140 := (Reads.of_code mixed (fn := Tryz.f140) (c := c140) Tryz.func140 (by kernel_rfl) (by kernel_rfl) env140 200 (L140_fit) (by kernel_rfl)).to (eq140)
noncomputable def s140 : Summ Tryz.prog := reads140.summ
/- chicane/car.ease -/
noncomputable def c141 : Code := (Tryz.f141.body.getD .skip)
noncomputable def env141 : Env Tryz.prog := ⟨[s133, s157, s156], none⟩
noncomputable def L141 : Loops Tryz.prog := []
theorem L141_fit : (L141).fit c141 := Loops.fit_nil
noncomputable def law141 (x : (CarT × Unit)) : Option ((Int × Unit)) := (Option.bind (fn133 ([(x.fst.snd.snd.snd.snd.snd.snd.snd.snd.snd.snd.snd.snd.snd.snd.snd.snd.snd.snd.snd.snd.snd.snd.snd.snd.snd.snd.snd.snd.fst, 0, 17179869184, ()), (x.fst.snd.snd.snd.snd.snd.snd.snd.snd.snd.snd.snd.snd.snd.snd.snd.snd.snd.snd.snd.snd.snd.snd.snd.snd.snd.snd.snd.snd.snd.fst, 0, 17179869184, ()), (x.fst.snd.snd.snd.snd.snd.snd.snd.snd.snd.snd.snd.snd.snd.snd.snd.snd.snd.snd.snd.snd.snd.snd.snd.snd.snd.snd.snd.snd.snd.snd.fst, 0, 8796093022208, ()), (x.fst.snd.snd.snd.snd.snd.snd.snd.snd.snd.snd.snd.snd.snd.snd.snd.snd.snd.snd.snd.snd.snd.snd.snd.snd.snd.snd.snd.snd.snd.snd.snd.fst, 0, 8796093022208, ())], ())) fun v0 => (Option.bind (fn157 x.fst.snd.snd.snd.snd.snd.snd.snd.snd.snd.snd.snd.snd.snd.snd.snd.snd.snd.snd.snd.snd.snd.snd.snd.snd.snd.snd.snd.snd.snd.snd) fun v1 => (Option.bind (fn156 ([v0.fst, v1.fst], ())) fun v2 => some ((v2.fst, ())))))
theorem eq141 (x : Sh.Ts [CarSh]) : codeLaw Tryz.prog env141 200 (L141) Tryz.f141 c141 [CarSh] [.int .i64] x = law141 x := by kernel_rfl
noncomputable def fn141 (x : (CarT × Unit)) : Option ((Int × Unit)) := law141 x
theorem reads141 : Reads Tryz.prog 141 [CarSh] [.int .i64] fn141 := (Reads.of_code mixed (fn := Tryz.f141) (c := c141) Tryz.func141 (by kernel_rfl) (by kernel_rfl) env141 200 (L141_fit) (by kernel_rfl)).to (eq141)
noncomputable def s141 : Summ Tryz.prog := reads141.summ
/- chicane/car.all -/
noncomputable def c109 : Code := (Tryz.f109.body.getD .skip)
noncomputable def env109 : Env Tryz.prog := ⟨[s131, s132, s133, s134, s135, s136, s137, s138, s139, s140, s141], none⟩
noncomputable def L109 : Loops Tryz.prog := []
theorem L109_fit : (L109).fit c109 := Loops.fit_nil
noncomputable def law109 (x : (CarT × Unit)) : Option (List Int) := (Option.bind (fn131 x) fun v0 => (Option.bind (fn132 (x.fst.snd.snd.fst.fst, ())) fun v1 => (Option.bind (fn132 (x.fst.snd.snd.fst.snd.fst, ())) fun v2 => (Option.bind (fn132 (x.fst.snd.snd.fst.snd.snd.fst, ())) fun v3 => (Option.bind (fn132 x.fst.snd.snd.fst.snd.snd.snd) fun v4 => (Option.bind (fn133 ([(x.fst.snd.snd.snd.fst.fst, 0, 562949953421312, ()), (x.fst.snd.snd.snd.fst.snd.fst, 0, 562949953421312, ())], ())) fun v5 => (Option.bind (fn134x135 (x.fst.snd.snd.snd.snd.fst, -140737488355328, 140737488355328, ()) ()) fun v6 => (Option.bind (fn136 (x.fst.snd.snd.snd.snd.snd.fst, ())) fun v7 => (Option.bind (fn134x137 (x.fst.snd.snd.snd.snd.snd.snd.fst, -17592186044416, 17592186044416, ()) ()) fun v8 => (Option.bind (fn134x137 (x.fst.snd.snd.snd.snd.snd.snd.snd.fst, 0, 140737488355328, ()) ()) fun v9 => (Option.bind (fn138 x) fun v10 => (Option.bind (fn139 x) fun v11 => (Option.bind (fn140 x) fun v12 => (Option.bind (fn141 x) fun v13 => some ([v0.fst, v1.fst, v2.fst, v3.fst, v4.fst, v5.fst, v6.fst, v7.fst, v8.fst, v9.fst, v10.fst, v11.fst, v12.fst, v13.fst])))))))))))))))
theorem eq109 (x : Sh.Ts [CarSh]) : codeLawF Tryz.prog env109 200 (L109) Tryz.f109 c109 [CarSh] (.int .i64) x = law109 x := by
  have h : codeLawF Tryz.prog env109 200 (L109) Tryz.f109 c109 [CarSh] (.int .i64) x = (bif decide (List.length x.fst.snd.snd.snd.snd.fst = List.length x.fst.snd.snd.snd.snd.fst) && (decide (List.length x.fst.snd.snd.snd.snd.snd.fst.fst = List.length x.fst.snd.snd.snd.snd.snd.fst.fst) && (decide (List.length x.fst.snd.snd.snd.snd.snd.fst.snd.fst = List.length x.fst.snd.snd.snd.snd.snd.fst.snd.fst) && (decide (List.length x.fst.snd.snd.snd.snd.snd.fst.snd.snd.fst = List.length x.fst.snd.snd.snd.snd.snd.fst.snd.snd.fst) && true)) && (decide (List.length x.fst.snd.snd.snd.snd.snd.snd.fst = List.length x.fst.snd.snd.snd.snd.snd.snd.fst) && (decide (List.length x.fst.snd.snd.snd.snd.snd.snd.snd.fst = List.length x.fst.snd.snd.snd.snd.snd.snd.snd.fst) && (decide (List.length x.fst.snd.snd.snd.snd.snd.snd.snd.snd.snd.snd.snd.snd.snd.snd.snd.snd.fst = List.length x.fst.snd.snd.snd.snd.snd.snd.snd.snd.snd.snd.snd.snd.snd.snd.snd.snd.fst) && true)))) && true then (Option.bind (fn131 x) fun v0 => (Option.bind (fn132 (x.fst.snd.snd.fst.fst, ())) fun v1 => (Option.bind (fn132 (x.fst.snd.snd.fst.snd.fst, ())) fun v2 => (Option.bind (fn132 (x.fst.snd.snd.fst.snd.snd.fst, ())) fun v3 => (Option.bind (fn132 x.fst.snd.snd.fst.snd.snd.snd) fun v4 => (Option.bind (fn133 ([(x.fst.snd.snd.snd.fst.fst, 0, 562949953421312, ()), (x.fst.snd.snd.snd.fst.snd.fst, 0, 562949953421312, ())], ())) fun v5 => (bif decide (List.length x.fst.snd.snd.snd.snd.fst = List.length x.fst.snd.snd.snd.snd.fst) && true && true then (Option.bind (fn134x135 (x.fst.snd.snd.snd.snd.fst, -140737488355328, 140737488355328, ()) ()) fun v6 => (bif decide (List.length x.fst.snd.snd.snd.snd.snd.fst.fst = List.length x.fst.snd.snd.snd.snd.snd.fst.fst) && (decide (List.length x.fst.snd.snd.snd.snd.snd.fst.snd.fst = List.length x.fst.snd.snd.snd.snd.snd.fst.snd.fst) && (decide (List.length x.fst.snd.snd.snd.snd.snd.fst.snd.snd.fst = List.length x.fst.snd.snd.snd.snd.snd.fst.snd.snd.fst) && true)) && true then (Option.bind (fn136 (x.fst.snd.snd.snd.snd.snd.fst, ())) fun v7 => (bif decide (List.length x.fst.snd.snd.snd.snd.snd.snd.fst = List.length x.fst.snd.snd.snd.snd.snd.snd.fst) && true && true then (Option.bind (fn134x137 (x.fst.snd.snd.snd.snd.snd.snd.fst, -17592186044416, 17592186044416, ()) ()) fun v8 => (bif decide (List.length x.fst.snd.snd.snd.snd.snd.snd.snd.fst = List.length x.fst.snd.snd.snd.snd.snd.snd.snd.fst) && true && true then (Option.bind (fn134x137 (x.fst.snd.snd.snd.snd.snd.snd.snd.fst, 0, 140737488355328, ()) ()) fun v9 => (bif decide (List.length x.fst.snd.snd.snd.snd.fst = List.length x.fst.snd.snd.snd.snd.fst) && (decide (List.length x.fst.snd.snd.snd.snd.snd.fst.fst = List.length x.fst.snd.snd.snd.snd.snd.fst.fst) && (decide (List.length x.fst.snd.snd.snd.snd.snd.fst.snd.fst = List.length x.fst.snd.snd.snd.snd.snd.fst.snd.fst) && (decide (List.length x.fst.snd.snd.snd.snd.snd.fst.snd.snd.fst = List.length x.fst.snd.snd.snd.snd.snd.fst.snd.snd.fst) && true)) && (decide (List.length x.fst.snd.snd.snd.snd.snd.snd.fst = List.length x.fst.snd.snd.snd.snd.snd.snd.fst) && (decide (List.length x.fst.snd.snd.snd.snd.snd.snd.snd.fst = List.length x.fst.snd.snd.snd.snd.snd.snd.snd.fst) && (decide (List.length x.fst.snd.snd.snd.snd.snd.snd.snd.snd.snd.snd.snd.snd.snd.snd.snd.snd.fst = List.length x.fst.snd.snd.snd.snd.snd.snd.snd.snd.snd.snd.snd.snd.snd.snd.snd.snd.fst) && true)))) && true then (Option.bind (fn138 x) fun v10 => (bif decide (List.length x.fst.snd.snd.snd.snd.fst = List.length x.fst.snd.snd.snd.snd.fst) && (decide (List.length x.fst.snd.snd.snd.snd.snd.fst.fst = List.length x.fst.snd.snd.snd.snd.snd.fst.fst) && (decide (List.length x.fst.snd.snd.snd.snd.snd.fst.snd.fst = List.length x.fst.snd.snd.snd.snd.snd.fst.snd.fst) && (decide (List.length x.fst.snd.snd.snd.snd.snd.fst.snd.snd.fst = List.length x.fst.snd.snd.snd.snd.snd.fst.snd.snd.fst) && true)) && (decide (List.length x.fst.snd.snd.snd.snd.snd.snd.fst = List.length x.fst.snd.snd.snd.snd.snd.snd.fst) && (decide (List.length x.fst.snd.snd.snd.snd.snd.snd.snd.fst = List.length x.fst.snd.snd.snd.snd.snd.snd.snd.fst) && (decide (List.length x.fst.snd.snd.snd.snd.snd.snd.snd.snd.snd.snd.snd.snd.snd.snd.snd.snd.fst = List.length x.fst.snd.snd.snd.snd.snd.snd.snd.snd.snd.snd.snd.snd.snd.snd.snd.snd.fst) && true)))) && true then (Option.bind (fn139 x) fun v11 => (bif decide (List.length x.fst.snd.snd.snd.snd.fst = List.length x.fst.snd.snd.snd.snd.fst) && (decide (List.length x.fst.snd.snd.snd.snd.snd.fst.fst = List.length x.fst.snd.snd.snd.snd.snd.fst.fst) && (decide (List.length x.fst.snd.snd.snd.snd.snd.fst.snd.fst = List.length x.fst.snd.snd.snd.snd.snd.fst.snd.fst) && (decide (List.length x.fst.snd.snd.snd.snd.snd.fst.snd.snd.fst = List.length x.fst.snd.snd.snd.snd.snd.fst.snd.snd.fst) && true)) && (decide (List.length x.fst.snd.snd.snd.snd.snd.snd.fst = List.length x.fst.snd.snd.snd.snd.snd.snd.fst) && (decide (List.length x.fst.snd.snd.snd.snd.snd.snd.snd.fst = List.length x.fst.snd.snd.snd.snd.snd.snd.snd.fst) && (decide (List.length x.fst.snd.snd.snd.snd.snd.snd.snd.snd.snd.snd.snd.snd.snd.snd.snd.snd.fst = List.length x.fst.snd.snd.snd.snd.snd.snd.snd.snd.snd.snd.snd.snd.snd.snd.snd.snd.fst) && true)))) && true then (Option.bind (fn140 x) fun v12 => (bif decide (List.length x.fst.snd.snd.snd.snd.fst = List.length x.fst.snd.snd.snd.snd.fst) && (decide (List.length x.fst.snd.snd.snd.snd.snd.fst.fst = List.length x.fst.snd.snd.snd.snd.snd.fst.fst) && (decide (List.length x.fst.snd.snd.snd.snd.snd.fst.snd.fst = List.length x.fst.snd.snd.snd.snd.snd.fst.snd.fst) && (decide (List.length x.fst.snd.snd.snd.snd.snd.fst.snd.snd.fst = List.length x.fst.snd.snd.snd.snd.snd.fst.snd.snd.fst) && true)) && (decide (List.length x.fst.snd.snd.snd.snd.snd.snd.fst = List.length x.fst.snd.snd.snd.snd.snd.snd.fst) && (decide (List.length x.fst.snd.snd.snd.snd.snd.snd.snd.fst = List.length x.fst.snd.snd.snd.snd.snd.snd.snd.fst) && (decide (List.length x.fst.snd.snd.snd.snd.snd.snd.snd.snd.snd.snd.snd.snd.snd.snd.snd.snd.fst = List.length x.fst.snd.snd.snd.snd.snd.snd.snd.snd.snd.snd.snd.snd.snd.snd.snd.snd.fst) && true)))) && true then (Option.bind (fn141 x) fun v13 => some ([v0.fst, v1.fst, v2.fst, v3.fst, v4.fst, v5.fst, v6.fst, v7.fst, v8.fst, v9.fst, v10.fst, v11.fst, v12.fst, v13.fst])) else none)) else none)) else none)) else none)) else none)) else none)) else none)) else none))))))) else none) := by kernel_rfl
  rw [h]
  unfold law109
  simp only [decide_self, decide_true, Nat.zero_add, Bool.and_true, Bool.true_and, cond_true]
noncomputable def fn109 (x : (CarT × Unit)) : Option (List (Int)) := law109 x
theorem reads109 : ReadsF Tryz.prog 109 [CarSh] (.int .i64) fn109 := (ReadsF.of_code mixed (fn := Tryz.f109) (c := c109) Tryz.func109 (by kernel_rfl) (by kernel_rfl) env109 200 (L109_fit)).to (eq109)
noncomputable def s109 : Summ Tryz.prog := reads109.summ
/- chicane/car.Right$1 -/
noncomputable def c111 : Code := (Tryz.f111.body.getD .skip)
noncomputable def env111 : Env Tryz.prog := ⟨[], none⟩
noncomputable def L111 : Loops Tryz.prog := []
theorem L111_fit : (L111).fit c111 := Loops.fit_nil
noncomputable def law111 (x : (Int × Unit)) : Option ((Bool × Unit)) := some ((x.fst != 0, ()))
theorem eq111 (x : Sh.Ts [Sh.int IntKind.i64]) : codeLaw Tryz.prog env111 200 (L111) Tryz.f111 c111 [.int .i64] [.bool] x = law111 x := by kernel_rfl
noncomputable def fn111 (x : (Int × Unit)) : Option ((Bool × Unit)) := law111 x
theorem reads111 : Reads Tryz.prog 111 [.int .i64] [.bool] fn111 := (Reads.of_code mixed (fn := Tryz.f111) (c := c111) Tryz.func111 (by kernel_rfl) (by kernel_rfl) env111 200 (L111_fit) (by kernel_rfl)).to (eq111)
noncomputable def s111 : Summ Tryz.prog := reads111.summ
/- slices.IndexFunc[[]chicane/api.Errno,chicane/api.Errno] -/
noncomputable def c110x111 : Code := (Tryz.f110.body.getD .skip)
noncomputable def env110x111 : Env Tryz.prog := ⟨[s111], none⟩
noncomputable def b110x111_0 : Code := ((kid ((subAt c110x111 [0, 1, 0, 1]).getD .skip) 0).getD .skip)
noncomputable def kx110x111_0 : Exit → List Nat | .ret => [4] | _ => []
noncomputable def Li110x111_0 (N0 : Nat) : Loops Tryz.prog := []
noncomputable def ls110x111_0 (N0 : Nat) : LSumm Tryz.prog := loopSumm mixed env110x111 200 (Li110x111_0 N0) b110x111_0 (Loops.fit_nil) [0, 1, 7, 8] kx110x111_0 (N0)
noncomputable def ln110x111_0 {β : Type} (N0 : Nat) (n : Nat) (t : List AV) (h : Heap) (K : Exit → List AV → Heap → Option β) : Option β := loopN Tryz.prog env110x111 (Sh.nes [.sl (.int .i64)] + Sh.nes [] + List.length (α := Sh) []) 200 (Li110x111_0 N0) b110x111_0 [0, 1, 7, 8] kx110x111_0 n t h K
noncomputable def L110x111 (N0 : Nat) : Loops Tryz.prog := [([0, 1, 0, 1], ls110x111_0 N0)]
theorem L110x111_fit (N0 : Nat) : (L110x111 N0).fit c110x111 := Loops.fit_cons (by kernel_rfl) (Loops.fit_nil)
noncomputable def K110x111 : Exit → List AV → Heap → Option (Sh.Ts [.int .i64]) := fun e t h => outK (P := Tryz.prog) Tryz.f110 [.int .i64] e t h
noncomputable def rk110x111_0 (N0 : Nat) : Exit → List AV → Heap → Option (Sh.Ts [.int .i64]) := (blkK 0 (seqK Tryz.prog env110x111 (Sh.nes [.sl (.int .i64)] + Sh.nes [] + List.length (α := Sh) []) 198 (L110x111 N0) [1, 1] ((subAt c110x111 [1, 1]).getD .skip) K110x111))
noncomputable def t110x111_0 (N0 : Nat) (x : Sh.Ts [(Sh.int IntKind.i64).sl]) (i5 : Int) : List AV := [AV.slc 0 0 (List.length x.fst) Cap.low, AV.fn (Fn.func 111) [] [], AV.any, AV.any, AV.any, AV.any, AV.any, AV.val (Value.int IntKind.i64 (↑(List.length x.fst) : Int)), AV.val (Value.int IntKind.i64 i5), AV.any, AV.any, AV.any, AV.any, AV.any, AV.any, AV.any, AV.any, AV.any, AV.any]
noncomputable def h110x111_0 (N0 : Nat) (x : Sh.Ts [(Sh.int IntKind.i64).sl]) (i5 : Int) : Heap := [Ent.live (Blk.mk (Cells.arr (Sh.int IntKind.i64) x.fst) false none)]
noncomputable def tx110x111_0_0 (N0 : Nat) (x : Sh.Ts [(Sh.int IntKind.i64).sl]) (w7 : Int) : List AV := [AV.any, AV.any, AV.any, AV.any, AV.val (Value.int IntKind.i64 w7), AV.any, AV.any, AV.any, AV.any, AV.any, AV.any, AV.any, AV.any, AV.any, AV.any, AV.any, AV.any, AV.any, AV.any]
noncomputable def hx110x111_0_0 (N0 : Nat) (x : Sh.Ts [(Sh.int IntKind.i64).sl]) (w7 : Int) : Heap := [Ent.live (Blk.mk (Cells.arr (Sh.int IntKind.i64) x.fst) false none)]
noncomputable def tx110x111_0_1 (N0 : Nat) (x : Sh.Ts [(Sh.int IntKind.i64).sl]) : List AV := [AV.any, AV.any, AV.any, AV.any, AV.any, AV.any, AV.any, AV.any, AV.any, AV.any, AV.any, AV.any, AV.any, AV.any, AV.any, AV.any, AV.any, AV.any, AV.any]
noncomputable def hx110x111_0_1 (N0 : Nat) (x : Sh.Ts [(Sh.int IntKind.i64).sl]) : Heap := [Ent.live (Blk.mk (Cells.arr (Sh.int IntKind.i64) x.fst) false none)]
noncomputable def law110x111_0 {β : Type} (N0 : Nat) (x : ((List Int) × Unit)) (k0 : Int → Option β) (k1 : Option β) : Nat → Int → Option β
  | 0, _ => none
  | n + 1, i5 => (bif decide (i5 < (↑(List.length x.fst) : Int)) then (bif decide (0 ≤ i5) && decide (i5 < (↑(List.length x.fst) : Int)) then (Option.bind x.fst[i5.toNat]? fun v6 => (bif v6 != 0 then k0 i5 else law110x111_0 N0 x k0 k1 n (IntKind.i64.wrap (i5 + 1)))) else none) else k1)
theorem leq110x111_0 {β : Type} (N0 : Nat) (x : Sh.Ts [(Sh.int IntKind.i64).sl]) (K : Exit → List AV → Heap → Option β) : ∀ (n : Nat) (i5 : Int), ln110x111_0 N0 n (t110x111_0 N0 x i5) (h110x111_0 N0 x i5) K = law110x111_0 N0 x (fun w7 => K (Exit.ret) (tx110x111_0_0 N0 x w7) (hx110x111_0_0 N0 x w7)) (K (Exit.exit 0) (tx110x111_0_1 N0 x) (hx110x111_0_1 N0 x)) n i5
  | 0, _ => rfl
  | n + 1, i5 => by
    have h : ln110x111_0 N0 (n + 1) (t110x111_0 N0 x i5) (h110x111_0 N0 x i5) K = (bif decide (i5 < (↑(List.length x.fst) : Int)) then (bif decide (0 ≤ i5) && decide (i5 < (↑(List.length x.fst) : Int)) then (Option.bind (x.fst[0 + i5.toNat]?) fun v6 => (bif v6 != 0 then K (Exit.ret) (tx110x111_0_0 N0 x i5) (hx110x111_0_0 N0 x i5) else ln110x111_0 N0 n (t110x111_0 N0 x (IntKind.i64.wrap (i5 + 1))) (h110x111_0 N0 x (IntKind.i64.wrap (i5 + 1))) K)) else none) else K (Exit.exit 0) (tx110x111_0_1 N0 x) (hx110x111_0_1 N0 x)) := by kernel_rfl
    rw [h]
    simp only [decide_self, decide_true, Nat.zero_add, Bool.and_true, Bool.true_and, cond_true, law110x111_0, leq110x111_0 N0 x K n]
theorem rest110x111_0_0 (N0 : Nat) (x : Sh.Ts [(Sh.int IntKind.i64).sl]) (w8 : Int) : rk110x111_0 N0 (Exit.ret) (tx110x111_0_0 N0 x w8) (hx110x111_0_0 N0 x w8) = some ((w8, ())) := by kernel_rfl
theorem rest110x111_0_1 (N0 : Nat) (x : Sh.Ts [(Sh.int IntKind.i64).sl]) : rk110x111_0 N0 (Exit.exit 0) (tx110x111_0_1 N0 x) (hx110x111_0_1 N0 x) = some ((-1, ())) := by kernel_rfl
noncomputable def law110x111 (N0 : Nat) (x : ((List Int) × Unit)) (xs : (Unit)) : Option ((Int × Unit)) := (law110x111_0 N0 x (fun w8 => some ((w8, ()))) (some ((-1, ()))) N0 0)
theorem eq110x111 (N0 : Nat) (x : Sh.Ts [(Sh.int IntKind.i64).sl]) (xs : Sh.Ts []) : codeLawC Tryz.prog env110x111 200 (L110x111 N0) Tryz.f110 c110x111 [.sl (.int .i64)] 111 [] [.int .i64] x xs = law110x111 N0 x xs := by
  have h : codeLawC Tryz.prog env110x111 200 (L110x111 N0) Tryz.f110 c110x111 [.sl (.int .i64)] 111 [] [.int .i64] x xs = (ln110x111_0 N0 N0 (t110x111_0 N0 x 0) (h110x111_0 N0 x 0) (rk110x111_0 N0)) := by kernel_rfl
  rw [h]
  unfold law110x111
  simp only [decide_self, decide_true, Nat.zero_add, Bool.and_true, Bool.true_and, cond_true, leq110x111_0, rest110x111_0_0, rest110x111_0_1]
noncomputable def fn110x111 (x : ((List Int) × Unit)) (xs : (Unit)) : Option ((Int × Unit)) := law110x111 (10 ^ 30) x xs
theorem reads110x111 : ReadsC Tryz.prog 110 [.sl (.int .i64)] 111 [] [.int .i64] fn110x111 := (ReadsC.of_code mixed (fn := Tryz.f110) (c := c110x111) Tryz.func110 (by kernel_rfl) (by kernel_rfl) env110x111 200 (L110x111_fit _) (by kernel_rfl)).to (eq110x111 _)
noncomputable def s110x111 : Summ Tryz.prog := reads110x111.summ (by kernel_rfl)
noncomputable def s110 : Summ Tryz.prog := s110x111
/- chicane/car.Right -/
noncomputable def c63 : Code := (Tryz.f63.body.getD .skip)
noncomputable def env63 : Env Tryz.prog := ⟨[s109, s110, s111], none⟩
noncomputable def L63 : Loops Tryz.prog := []
theorem L63_fit : (L63).fit c63 := Loops.fit_nil
noncomputable def law63 (x : (CarT × Unit)) : Option ((Int × Int × Unit)) := (Option.bind (fn109 x) fun v0 => (Option.bind (fn110x111 (v0, ()) ()) fun v1 => (bif decide (v1.fst < 0) then some ((0, 0, ())) else (bif decide (0 ≤ v1.fst) && decide (v1.fst < (↑v0.length : Int)) then (Option.bind (v0[Int.toNat v1.fst]?) fun v2 => some ((v2, v1.fst, ()))) else none))))
theorem eq63 (x : Sh.Ts [CarSh]) : codeLaw Tryz.prog env63 200 (L63) Tryz.f63 c63 [CarSh] [.int .i64, .int .i64] x = law63 x := by
  have h : codeLaw Tryz.prog env63 200 (L63) Tryz.f63 c63 [CarSh] [.int .i64, .int .i64] x = (bif decide (List.length x.fst.snd.snd.snd.snd.fst = List.length x.fst.snd.snd.snd.snd.fst) && (decide (List.length x.fst.snd.snd.snd.snd.snd.fst.fst = List.length x.fst.snd.snd.snd.snd.snd.fst.fst) && (decide (List.length x.fst.snd.snd.snd.snd.snd.fst.snd.fst = List.length x.fst.snd.snd.snd.snd.snd.fst.snd.fst) && (decide (List.length x.fst.snd.snd.snd.snd.snd.fst.snd.snd.fst = List.length x.fst.snd.snd.snd.snd.snd.fst.snd.snd.fst) && true)) && (decide (List.length x.fst.snd.snd.snd.snd.snd.snd.fst = List.length x.fst.snd.snd.snd.snd.snd.snd.fst) && (decide (List.length x.fst.snd.snd.snd.snd.snd.snd.snd.fst = List.length x.fst.snd.snd.snd.snd.snd.snd.snd.fst) && (decide (List.length x.fst.snd.snd.snd.snd.snd.snd.snd.snd.snd.snd.snd.snd.snd.snd.snd.snd.fst = List.length x.fst.snd.snd.snd.snd.snd.snd.snd.snd.snd.snd.snd.snd.snd.snd.snd.snd.fst) && true)))) && true then (Option.bind (fn109 x) fun v0 => (bif decide (v0.length = v0.length) && true && true then (Option.bind (fn110x111 (v0, ()) ()) fun v1 => (bif decide (v1.fst < 0) then some ((0, 0, ())) else (bif decide (0 ≤ v1.fst) && decide (v1.fst < (↑v0.length : Int)) then (Option.bind (v0[0 + Int.toNat v1.fst]?) fun v2 => some ((v2, v1.fst, ()))) else none))) else none)) else none) := by kernel_rfl
  rw [h]
  unfold law63
  simp only [decide_self, decide_true, Nat.zero_add, Bool.and_true, Bool.true_and, cond_true]
noncomputable def fn63 (x : (CarT × Unit)) : Option ((Int × Int × Unit)) := law63 x
theorem reads63 : Reads Tryz.prog 63 [CarSh] [.int .i64, .int .i64] fn63 := (Reads.of_code mixed (fn := Tryz.f63) (c := c63) Tryz.func63 (by kernel_rfl) (by kernel_rfl) env63 200 (L63_fit) (by kernel_rfl)).to (eq63)
noncomputable def s63 : Summ Tryz.prog := reads63.summ
/- chicane/chicanelaw09.Few -/
noncomputable def c27 : Code := (Tryz.f27.body.getD .skip)
noncomputable def env27 : Env Tryz.prog := ⟨[], none⟩
noncomputable def b27o0 : Code := ((kid ((subAt c27 [0, 1, 0, 1, 1]).getD .skip) 0).getD .skip)
noncomputable def kx27o0 : Exit → List Nat | .ret => [2] | _ => []
noncomputable def Li27o0 (N0 : Nat) : Loops Tryz.prog := []
noncomputable def ls27o0 (N0 : Nat) : LSumm Tryz.prog := loopSumm mixed env27 200 (Li27o0 N0) b27o0 (Loops.fit_nil) [1, 3] kx27o0 (N0)
noncomputable def ln27o0 {β : Type} (N0 : Nat) (n : Nat) (t : List AV) (h : Heap) (K : Exit → List AV → Heap → Option β) : Option β := loopN Tryz.prog env27 (Sh.nes [PaneSh]) 200 (Li27o0 N0) b27o0 [1, 3] kx27o0 n t h K
noncomputable def L27 (N0 : Nat) : Loops Tryz.prog := [([0, 1, 0, 1, 1], ls27o0 N0)]
theorem L27_fit (N0 : Nat) : (L27 N0).fit c27 := Loops.fit_cons (by kernel_rfl) (Loops.fit_nil)
noncomputable def K27 : Exit → List AV → Heap → Option (Sh.Ts [.bool]) := fun e t h => outK (P := Tryz.prog) Tryz.f27 [.bool] e t h
noncomputable def rk27o0 (N0 : Nat) : Exit → List AV → Heap → Option (Sh.Ts [.bool]) := (blkK 0 (seqK Tryz.prog env27 (Sh.nes [PaneSh]) 197 (L27 N0) [1, 1, 1] ((subAt c27 [1, 1, 1]).getD .skip) K27))
noncomputable def t27o0 (N0 : Nat) (x : Sh.Ts [PaneSh]) (i8 : Int) : List AV := [AV.any, AV.ptr 3 0, AV.any, AV.val (Value.int IntKind.i64 i8), AV.any, AV.any, AV.any, AV.any, AV.any, AV.any, AV.any, AV.any, AV.any, AV.any, AV.any, AV.any, AV.any, AV.any, AV.any, AV.any, AV.any, AV.any, AV.any, AV.any, AV.any, AV.any, AV.any, AV.any, AV.any, AV.any, AV.any, AV.any, AV.any, AV.any]
noncomputable def h27o0 (N0 : Nat) (x : Sh.Ts [PaneSh]) (i8 : Int) : Heap := [Ent.live (Blk.mk (Cells.arr (Sh.int IntKind.i64) x.fst.fst) false none), Ent.live (Blk.mk (Cells.arr (Sh.int IntKind.i64) x.fst.snd.fst) false none), Ent.live (Blk.mk (Cells.arrs (Sh.int IntKind.i64) x.fst.snd.snd.fst) false none), Ent.live (Blk.mk (Cells.lit [AV.slc 0 0 (List.length x.fst.fst) Cap.low, AV.slc 1 0 (List.length x.fst.snd.fst) Cap.low, AV.slc 2 0 (List.length x.fst.snd.snd.fst) Cap.low]) true none)]
noncomputable def tx27o0o0 (N0 : Nat) (x : Sh.Ts [PaneSh]) : List AV := [AV.any, AV.any, AV.val (Value.bool false), AV.any, AV.any, AV.any, AV.any, AV.any, AV.any, AV.any, AV.any, AV.any, AV.any, AV.any, AV.any, AV.any, AV.any, AV.any, AV.any, AV.any, AV.any, AV.any, AV.any, AV.any, AV.any, AV.any, AV.any, AV.any, AV.any, AV.any, AV.any, AV.any, AV.any, AV.any]
noncomputable def hx27o0o0 (N0 : Nat) (x : Sh.Ts [PaneSh]) : Heap := [Ent.live (Blk.mk (Cells.arr (Sh.int IntKind.i64) x.fst.fst) false none), Ent.live (Blk.mk (Cells.arr (Sh.int IntKind.i64) x.fst.snd.fst) false none), Ent.live (Blk.mk (Cells.arrs (Sh.int IntKind.i64) x.fst.snd.snd.fst) false none)]
noncomputable def tx27o0o1 (N0 : Nat) (x : Sh.Ts [PaneSh]) : List AV := [AV.any, AV.any, AV.any, AV.any, AV.any, AV.any, AV.any, AV.any, AV.any, AV.any, AV.any, AV.any, AV.any, AV.any, AV.any, AV.any, AV.any, AV.any, AV.any, AV.any, AV.any, AV.any, AV.any, AV.any, AV.any, AV.any, AV.any, AV.any, AV.any, AV.any, AV.any, AV.any, AV.any, AV.any]
noncomputable def hx27o0o1 (N0 : Nat) (x : Sh.Ts [PaneSh]) : Heap := [Ent.live (Blk.mk (Cells.arr (Sh.int IntKind.i64) x.fst.fst) false none), Ent.live (Blk.mk (Cells.arr (Sh.int IntKind.i64) x.fst.snd.fst) false none), Ent.live (Blk.mk (Cells.arrs (Sh.int IntKind.i64) x.fst.snd.snd.fst) false none)]
noncomputable def law27o0 {β : Type} (N0 : Nat) (x : (PaneT × Unit)) (k0 : Option β) (k1 : Option β) : Nat → Int → Option β
  | 0, _ => none
  | n + 1, i8 => (bif decide (i8 < (↑(List.length x.fst.snd.snd.fst) : Int)) then (bif decide (0 ≤ i8) && decide (i8 < (↑(List.length x.fst.snd.snd.fst) : Int)) then (Option.bind x.fst.snd.snd.fst[i8.toNat]? fun v9 => (bif decide ((↑v9.length : Int) > 40) then k0 else law27o0 N0 x k0 k1 n (IntKind.i64.wrap (i8 + 1)))) else none) else k1)
theorem leq27o0 {β : Type} (N0 : Nat) (x : Sh.Ts [PaneSh]) (K : Exit → List AV → Heap → Option β) : ∀ (n : Nat) (i8 : Int), ln27o0 N0 n (t27o0 N0 x i8) (h27o0 N0 x i8) K = law27o0 N0 x (K (Exit.ret) (tx27o0o0 N0 x) (hx27o0o0 N0 x)) (K (Exit.exit 0) (tx27o0o1 N0 x) (hx27o0o1 N0 x)) n i8
  | 0, _ => rfl
  | n + 1, i8 => by
    have h : ln27o0 N0 (n + 1) (t27o0 N0 x i8) (h27o0 N0 x i8) K = (bif decide (i8 < (↑(List.length x.fst.snd.snd.fst) : Int)) then (bif decide (0 ≤ i8) && decide (i8 < (↑(List.length x.fst.snd.snd.fst) : Int)) then (Option.bind (x.fst.snd.snd.fst[0 + i8.toNat]?) fun v9 => (bif decide ((↑v9.length : Int) > 40) then K (Exit.ret) (tx27o0o0 N0 x) (hx27o0o0 N0 x) else ln27o0 N0 n (t27o0 N0 x (IntKind.i64.wrap (i8 + 1))) (h27o0 N0 x (IntKind.i64.wrap (i8 + 1))) K)) else none) else K (Exit.exit 0) (tx27o0o1 N0 x) (hx27o0o1 N0 x)) := by kernel_rfl
    rw [h]
    simp only [decide_self, decide_true, Nat.zero_add, Bool.and_true, Bool.true_and, cond_true, law27o0, leq27o0 N0 x K n]
theorem rest27o0o0 (N0 : Nat) (x : Sh.Ts [PaneSh]) : rk27o0 N0 (Exit.ret) (tx27o0o0 N0 x) (hx27o0o0 N0 x) = some ((false, ())) := by kernel_rfl
theorem rest27o0o1 (N0 : Nat) (x : Sh.Ts [PaneSh]) : rk27o0 N0 (Exit.exit 0) (tx27o0o1 N0 x) (hx27o0o1 N0 x) = some ((true, ())) := by kernel_rfl
noncomputable def law27 (N0 : Nat) (x : (PaneT × Unit)) : Option ((Bool × Unit)) := (bif decide ((↑(List.length x.fst.fst) : Int) > 40) then some ((false, ())) else (bif decide ((↑(List.length x.fst.snd.fst) : Int) > 40) then some ((false, ())) else (bif decide ((↑(List.length x.fst.snd.snd.fst) : Int) > 40) then some ((false, ())) else (law27o0 N0 x (some ((false, ()))) (some ((true, ()))) N0 0))))
theorem eq27 (N0 : Nat) (x : Sh.Ts [PaneSh]) : codeLaw Tryz.prog env27 200 (L27 N0) Tryz.f27 c27 [PaneSh] [.bool] x = law27 N0 x := by
  have h : codeLaw Tryz.prog env27 200 (L27 N0) Tryz.f27 c27 [PaneSh] [.bool] x = (bif decide ((↑(List.length x.fst.fst) : Int) > 40) then some ((false, ())) else (bif decide ((↑(List.length x.fst.snd.fst) : Int) > 40) then some ((false, ())) else (bif decide ((↑(List.length x.fst.snd.snd.fst) : Int) > 40) then some ((false, ())) else (ln27o0 N0 N0 (t27o0 N0 x 0) (h27o0 N0 x 0) (rk27o0 N0))))) := by kernel_rfl
  rw [h]
  unfold law27
  simp only [decide_self, decide_true, Nat.zero_add, Bool.and_true, Bool.true_and, cond_true, leq27o0, rest27o0o0, rest27o0o1]
noncomputable def fn27 (x : (PaneT × Unit)) : Option ((Bool × Unit)) := law27 (10 ^ 30) x
theorem reads27 : Reads Tryz.prog 27 [PaneSh] [.bool] fn27 := (Reads.of_code mixed (fn := Tryz.f27) (c := c27) Tryz.func27 (by kernel_rfl) (by kernel_rfl) env27 200 (L27_fit _) (by kernel_rfl)).to (eq27 _)
noncomputable def s27 : Summ Tryz.prog := reads27.summ
/- chicane/chicanelaw17.Few -/
noncomputable def c9 : Code := (Tryz.f9.body.getD .skip)
noncomputable def env9 : Env Tryz.prog := ⟨[s27], none⟩
noncomputable def L9 : Loops Tryz.prog := []
theorem L9_fit : (L9).fit c9 := Loops.fit_nil
noncomputable def law9 (x : (CarT × Unit)) : Option ((Bool × Unit)) := (bif decide ((↑(List.length x.fst.snd.snd.snd.snd.fst) : Int) ≤ 40) then (bif decide ((↑(List.length x.fst.snd.snd.snd.snd.snd.snd.fst) : Int) ≤ 40) then (bif decide ((↑(List.length x.fst.snd.snd.snd.snd.snd.snd.snd.fst) : Int) ≤ 40) then (bif decide ((↑(List.length x.fst.snd.snd.snd.snd.snd.snd.snd.snd.snd.snd.snd.snd.snd.snd.snd.snd.fst) : Int) ≤ 20) then (Option.bind (fn27 (x.fst.snd.snd.snd.snd.snd.fst, ())) fun v0 => some ((v0.fst, ()))) else some ((false, ()))) else some ((false, ()))) else some ((false, ()))) else some ((false, ())))
theorem eq9 (x : Sh.Ts [CarSh]) : codeLaw Tryz.prog env9 200 (L9) Tryz.f9 c9 [CarSh] [.bool] x = law9 x := by
  have h : codeLaw Tryz.prog env9 200 (L9) Tryz.f9 c9 [CarSh] [.bool] x = (bif decide ((↑(List.length x.fst.snd.snd.snd.snd.fst) : Int) ≤ 40) then (bif decide ((↑(List.length x.fst.snd.snd.snd.snd.snd.snd.fst) : Int) ≤ 40) then (bif decide ((↑(List.length x.fst.snd.snd.snd.snd.snd.snd.snd.fst) : Int) ≤ 40) then (bif decide ((↑(List.length x.fst.snd.snd.snd.snd.snd.snd.snd.snd.snd.snd.snd.snd.snd.snd.snd.snd.fst) : Int) ≤ 20) then (bif decide (List.length x.fst.snd.snd.snd.snd.snd.fst.fst = List.length x.fst.snd.snd.snd.snd.snd.fst.fst) && (decide (List.length x.fst.snd.snd.snd.snd.snd.fst.snd.fst = List.length x.fst.snd.snd.snd.snd.snd.fst.snd.fst) && (decide (List.length x.fst.snd.snd.snd.snd.snd.fst.snd.snd.fst = List.length x.fst.snd.snd.snd.snd.snd.fst.snd.snd.fst) && true)) && true then (Option.bind (fn27 (x.fst.snd.snd.snd.snd.snd.fst, ())) fun v0 => some ((v0.fst, ()))) else none) else some ((false, ()))) else some ((false, ()))) else some ((false, ()))) else some ((false, ()))) := by kernel_rfl
  rw [h]
  unfold law9
  simp only [decide_self, decide_true, Nat.zero_add, Bool.and_true, Bool.true_and, cond_true]
noncomputable def fn9 (x : (CarT × Unit)) : Option ((Bool × Unit)) := law9 x
theorem reads9 : Reads Tryz.prog 9 [CarSh] [.bool] fn9 := (Reads.of_code mixed (fn := Tryz.f9) (c := c9) Tryz.func9 (by kernel_rfl) (by kernel_rfl) env9 200 (L9_fit) (by kernel_rfl)).to (eq9)
noncomputable def s9 : Summ Tryz.prog := reads9.summ
/- internal/reflectlite.ValueOf -/
noncomputable def s145 : Summ Tryz.prog := valueOfSumm 145 Tryz.func145 (by kernel_rfl) (by kernel_rfl) (by kernel_rfl) (by kernel_rfl)
/- (internal/reflectlite.Value).Len -/
noncomputable def s146 : Summ Tryz.prog := valueLenSumm 146 Tryz.func146 (by kernel_rfl) (by kernel_rfl) (by kernel_rfl) (by kernel_rfl)
/- chicane/table.Cell$1 -/
noncomputable def c121 : Code := (Tryz.f121.body.getD .skip)
noncomputable def env121 : Env Tryz.prog := ⟨[], none⟩
noncomputable def s121 : Summ Tryz.prog := inlSumm onlyM mixed 121 Tryz.f121 c121 Tryz.func121 (by kernel_rfl) (by kernel_rfl) env121 200 [] (Loops.fit_nil)
/- sort.SliceIsSorted -/
noncomputable def c120x121 : Code := (Tryz.f120.body.getD .skip)
noncomputable def env120x121 : Env Tryz.prog := ⟨[s145, s146, s121], none⟩
noncomputable def b120x121_0 : Code := ((kid ((subAt c120x121 [0, 1, 0, 1, 1, 1]).getD .skip) 0).getD .skip)
noncomputable def kx120x121_0 : Exit → List Nat | .ret => [4] | _ => []
noncomputable def Li120x121_0 (N0 : Nat) : Loops Tryz.prog := []
noncomputable def ls120x121_0 (N0 : Nat) : LSumm Tryz.prog := loopSumm mixed env120x121 200 (Li120x121_0 N0) b120x121_0 (Loops.fit_nil) [1, 7] kx120x121_0 (N0)
noncomputable def ln120x121_0 {β : Type} (N0 : Nat) (n : Nat) (t : List AV) (h : Heap) (K : Exit → List AV → Heap → Option β) : Option β := loopN Tryz.prog env120x121 (Sh.nes [.sl (DotSh)] + Sh.nes [.sl (DotSh)] + List.length (α := Sh) [.sl (DotSh)]) 200 (Li120x121_0 N0) b120x121_0 [1, 7] kx120x121_0 n t h K
noncomputable def L120x121 (N0 : Nat) : Loops Tryz.prog := [([0, 1, 0, 1, 1, 1], ls120x121_0 N0)]
theorem L120x121_fit (N0 : Nat) : (L120x121 N0).fit c120x121 := Loops.fit_cons (by kernel_rfl) (Loops.fit_nil)
noncomputable def K120x121 : Exit → List AV → Heap → Option (Sh.Ts [.bool]) := fun e t h => outK (P := Tryz.prog) Tryz.f120 [.bool] e t h
noncomputable def rk120x121_0 (N0 : Nat) : Exit → List AV → Heap → Option (Sh.Ts [.bool]) := (blkK 0 (seqK Tryz.prog env120x121 (Sh.nes [.sl (DotSh)] + Sh.nes [.sl (DotSh)] + List.length (α := Sh) [.sl (DotSh)]) 196 (L120x121 N0) [1, 1, 1, 1] ((subAt c120x121 [1, 1, 1, 1]).getD .skip) K120x121))
noncomputable def t120x121_0 (N0 : Nat) (x : Sh.Ts [DotSh.sl]) (xs : Sh.Ts [DotSh.sl]) (i6 : Int) : List AV := [AV.any, AV.fn (Fn.func 121) [] [AV.ptr 2 0], AV.any, AV.any, AV.any, AV.any, AV.any, AV.val (Value.int IntKind.i64 i6), AV.any, AV.any, AV.any, AV.any, AV.any, AV.any, AV.any, AV.any, AV.any, AV.any, AV.any, AV.any, AV.any, AV.any, AV.any]
noncomputable def h120x121_0 (N0 : Nat) (x : Sh.Ts [DotSh.sl]) (xs : Sh.Ts [DotSh.sl]) (i6 : Int) : Heap := [Ent.live (Blk.mk (Cells.arr (Sh.st [Sh.int IntKind.i64, Sh.int IntKind.i64]) x.fst) false none), Ent.live (Blk.mk (Cells.arr (Sh.st [Sh.int IntKind.i64, Sh.int IntKind.i64]) xs.fst) false none), Ent.live (Blk.mk (Cells.lit [AV.slc 1 0 (List.length xs.fst) Cap.low]) false none)]
noncomputable def tx120x121_0_0 (N0 : Nat) (x : Sh.Ts [DotSh.sl]) (xs : Sh.Ts [DotSh.sl]) : List AV := [AV.any, AV.any, AV.any, AV.any, AV.val (Value.bool false), AV.any, AV.any, AV.any, AV.any, AV.any, AV.any, AV.any, AV.any, AV.any, AV.any, AV.any, AV.any, AV.any, AV.any, AV.any, AV.any, AV.any, AV.any]
noncomputable def hx120x121_0_0 (N0 : Nat) (x : Sh.Ts [DotSh.sl]) (xs : Sh.Ts [DotSh.sl]) : Heap := [Ent.live (Blk.mk (Cells.arr (Sh.st [Sh.int IntKind.i64, Sh.int IntKind.i64]) x.fst) false none), Ent.live (Blk.mk (Cells.arr (Sh.st [Sh.int IntKind.i64, Sh.int IntKind.i64]) xs.fst) false none), Ent.live (Blk.mk (Cells.lit [AV.slc 1 0 (List.length xs.fst) Cap.low]) false none)]
noncomputable def tx120x121_0_1 (N0 : Nat) (x : Sh.Ts [DotSh.sl]) (xs : Sh.Ts [DotSh.sl]) : List AV := [AV.any, AV.any, AV.any, AV.any, AV.any, AV.any, AV.any, AV.any, AV.any, AV.any, AV.any, AV.any, AV.any, AV.any, AV.any, AV.any, AV.any, AV.any, AV.any, AV.any, AV.any, AV.any, AV.any]
noncomputable def hx120x121_0_1 (N0 : Nat) (x : Sh.Ts [DotSh.sl]) (xs : Sh.Ts [DotSh.sl]) : Heap := [Ent.live (Blk.mk (Cells.arr (Sh.st [Sh.int IntKind.i64, Sh.int IntKind.i64]) x.fst) false none), Ent.live (Blk.mk (Cells.arr (Sh.st [Sh.int IntKind.i64, Sh.int IntKind.i64]) xs.fst) false none), Ent.live (Blk.mk (Cells.lit [AV.slc 1 0 (List.length xs.fst) Cap.low]) false none)]
noncomputable def law120x121_0 {β : Type} (N0 : Nat) (x : ((List DotT) × Unit)) (xs : ((List DotT) × Unit)) (k0 : Option β) (k1 : Option β) : Nat → Int → Option β
  | 0, _ => none
  | n + 1, i6 => (bif decide (i6 > 0) then (bif decide (0 ≤ i6) && decide (i6 < (↑(List.length xs.fst) : Int)) then (Option.bind xs.fst[i6.toNat]? fun v7 => (bif decide (0 ≤ IntKind.i64.wrap (i6 - 1)) && decide (IntKind.i64.wrap (i6 - 1) < (↑(List.length xs.fst) : Int)) then (Option.bind (xs.fst[(IntKind.i64.wrap (i6 - 1)).toNat]?) fun v8 => (bif decide (v7.fst < v8.fst) then k0 else law120x121_0 N0 x xs k0 k1 n (IntKind.i64.wrap (i6 - 1)))) else none)) else none) else k1)
theorem leq120x121_0 {β : Type} (N0 : Nat) (x : Sh.Ts [DotSh.sl]) (xs : Sh.Ts [DotSh.sl]) (K : Exit → List AV → Heap → Option β) : ∀ (n : Nat) (i6 : Int), ln120x121_0 N0 n (t120x121_0 N0 x xs i6) (h120x121_0 N0 x xs i6) K = law120x121_0 N0 x xs (K (Exit.ret) (tx120x121_0_0 N0 x xs) (hx120x121_0_0 N0 x xs)) (K (Exit.exit 0) (tx120x121_0_1 N0 x xs) (hx120x121_0_1 N0 x xs)) n i6
  | 0, _ => rfl
  | n + 1, i6 => by
    have h : ln120x121_0 N0 (n + 1) (t120x121_0 N0 x xs i6) (h120x121_0 N0 x xs i6) K = (bif decide (i6 > 0) then (bif decide (0 ≤ i6) && decide (i6 < (↑(List.length xs.fst) : Int)) then (Option.bind xs.fst[i6.toNat]? fun v7 => (bif decide (0 ≤ IntKind.i64.wrap (i6 - 1)) && decide (IntKind.i64.wrap (i6 - 1) < (↑(List.length xs.fst) : Int)) then (Option.bind (xs.fst[(IntKind.i64.wrap (i6 - 1)).toNat]?) fun v8 => (bif decide (v7.fst < v8.fst) then K (Exit.ret) (tx120x121_0_0 N0 x xs) (hx120x121_0_0 N0 x xs) else ln120x121_0 N0 n (t120x121_0 N0 x xs (IntKind.i64.wrap (i6 - 1))) (h120x121_0 N0 x xs (IntKind.i64.wrap (i6 - 1))) K)) else none)) else none) else K (Exit.exit 0) (tx120x121_0_1 N0 x xs) (hx120x121_0_1 N0 x xs)) := by kernel_rfl
    rw [h]
    simp only [decide_self, decide_true, Nat.zero_add, Bool.and_true, Bool.true_and, cond_true, law120x121_0, leq120x121_0 N0 x xs K n]
theorem rest120x121_0_0 (N0 : Nat) (x : Sh.Ts [DotSh.sl]) (xs : Sh.Ts [DotSh.sl]) : rk120x121_0 N0 (Exit.ret) (tx120x121_0_0 N0 x xs) (hx120x121_0_0 N0 x xs) = some ((false, ())) := by kernel_rfl
theorem rest120x121_0_1 (N0 : Nat) (x : Sh.Ts [DotSh.sl]) (xs : Sh.Ts [DotSh.sl]) : rk120x121_0 N0 (Exit.exit 0) (tx120x121_0_1 N0 x xs) (hx120x121_0_1 N0 x xs) = some ((true, ())) := by kernel_rfl
noncomputable def law120x121 (N0 : Nat) (x : ((List DotT) × Unit)) (xs : ((List DotT) × Unit)) : Option ((Bool × Unit)) := (law120x121_0 N0 x xs (some ((false, ()))) (some ((true, ()))) N0 (IntKind.i64.wrap ((↑(List.length x.fst) : Int) - 1)))
theorem eq120x121 (N0 : Nat) (x : Sh.Ts [DotSh.sl]) (xs : Sh.Ts [DotSh.sl]) : codeLawI Tryz.prog env120x121 200 (L120x121 N0) Tryz.f120 c120x121 29 [.sl (DotSh)] 121 [.sl (DotSh)] [.bool] x xs = law120x121 N0 x xs := by
  have h : codeLawI Tryz.prog env120x121 200 (L120x121 N0) Tryz.f120 c120x121 29 [.sl (DotSh)] 121 [.sl (DotSh)] [.bool] x xs = (ln120x121_0 N0 N0 (t120x121_0 N0 x xs (IntKind.i64.wrap ((↑(List.length x.fst) : Int) - 1))) (h120x121_0 N0 x xs (IntKind.i64.wrap ((↑(List.length x.fst) : Int) - 1))) (rk120x121_0 N0)) := by kernel_rfl
  rw [h]
  unfold law120x121
  simp only [decide_self, decide_true, Nat.zero_add, Bool.and_true, Bool.true_and, cond_true, leq120x121_0, rest120x121_0_0, rest120x121_0_1]
noncomputable def fn120x121 (x : ((List DotT) × Unit)) (xs : ((List DotT) × Unit)) : Option ((Bool × Unit)) := law120x121 (10 ^ 30) x xs
theorem reads120x121 : ReadsI Tryz.prog 120 29 [.sl (DotSh)] 121 [.sl (DotSh)] [.bool] fn120x121 := (ReadsI.of_code mixed (fn := Tryz.f120) (c := c120x121) Tryz.func120 (by kernel_rfl) (by kernel_rfl) env120x121 200 (L120x121_fit _) (by kernel_rfl)).to (eq120x121 _)
noncomputable def s120x121 : Summ Tryz.prog := reads120x121.summ (by kernel_rfl)
/- chicane/table.last -/
noncomputable def c122 : Code := (Tryz.f122.body.getD .skip)
noncomputable def env122 : Env Tryz.prog := ⟨[], none⟩
noncomputable def b122o0 : Code := ((kid ((subAt c122 [0, 1, 0, 1]).getD .skip) 0).getD .skip)
noncomputable def kx122o0 : Exit → List Nat | .ret => [4] | _ => []
noncomputable def Li122o0 (N0 : Nat) : Loops Tryz.prog := []
noncomputable def ls122o0 (N0 : Nat) : LSumm Tryz.prog := loopSumm mixed env122 200 (Li122o0 N0) b122o0 (Loops.fit_nil) [0, 1, 5] kx122o0 (N0)
noncomputable def ln122o0 {β : Type} (N0 : Nat) (n : Nat) (t : List AV) (h : Heap) (K : Exit → List AV → Heap → Option β) : Option β := loopN Tryz.prog env122 (Sh.nes [.sl (DotSh), .int .i64]) 200 (Li122o0 N0) b122o0 [0, 1, 5] kx122o0 n t h K
noncomputable def L122 (N0 : Nat) : Loops Tryz.prog := [([0, 1, 0, 1], ls122o0 N0)]
theorem L122_fit (N0 : Nat) : (L122 N0).fit c122 := Loops.fit_cons (by kernel_rfl) (Loops.fit_nil)
noncomputable def K122 : Exit → List AV → Heap → Option (Sh.Ts [.int .i64]) := fun e t h => outK (P := Tryz.prog) Tryz.f122 [.int .i64] e t h
noncomputable def rk122o0 (N0 : Nat) : Exit → List AV → Heap → Option (Sh.Ts [.int .i64]) := (blkK 0 (seqK Tryz.prog env122 (Sh.nes [.sl (DotSh), .int .i64]) 198 (L122 N0) [1, 1] ((subAt c122 [1, 1]).getD .skip) K122))
noncomputable def t122o0 (N0 : Nat) (x : Sh.Ts [DotSh.sl, Sh.int IntKind.i64]) (i5 : Int) : List AV := [AV.slc 0 0 (List.length x.fst) Cap.low, AV.val (Value.int IntKind.i64 x.snd.fst), AV.any, AV.any, AV.any, AV.val (Value.int IntKind.i64 i5), AV.any, AV.any, AV.any, AV.any, AV.any, AV.any, AV.any, AV.any, AV.any, AV.any, AV.any, AV.any, AV.any, AV.any, AV.any]
noncomputable def h122o0 (N0 : Nat) (x : Sh.Ts [DotSh.sl, Sh.int IntKind.i64]) (i5 : Int) : Heap := [Ent.live (Blk.mk (Cells.arr (Sh.st [Sh.int IntKind.i64, Sh.int IntKind.i64]) x.fst) false none)]
noncomputable def tx122o0o0 (N0 : Nat) (x : Sh.Ts [DotSh.sl, Sh.int IntKind.i64]) (w7 : Int) : List AV := [AV.any, AV.any, AV.any, AV.any, AV.val (Value.int IntKind.i64 w7), AV.any, AV.any, AV.any, AV.any, AV.any, AV.any, AV.any, AV.any, AV.any, AV.any, AV.any, AV.any, AV.any, AV.any, AV.any, AV.any]
noncomputable def hx122o0o0 (N0 : Nat) (x : Sh.Ts [DotSh.sl, Sh.int IntKind.i64]) (w7 : Int) : Heap := [Ent.live (Blk.mk (Cells.arr (Sh.st [Sh.int IntKind.i64, Sh.int IntKind.i64]) x.fst) false none)]
noncomputable def tx122o0o1 (N0 : Nat) (x : Sh.Ts [DotSh.sl, Sh.int IntKind.i64]) : List AV := [AV.any, AV.any, AV.any, AV.any, AV.any, AV.any, AV.any, AV.any, AV.any, AV.any, AV.any, AV.any, AV.any, AV.any, AV.any, AV.any, AV.any, AV.any, AV.any, AV.any, AV.any]
noncomputable def hx122o0o1 (N0 : Nat) (x : Sh.Ts [DotSh.sl, Sh.int IntKind.i64]) : Heap := [Ent.live (Blk.mk (Cells.arr (Sh.st [Sh.int IntKind.i64, Sh.int IntKind.i64]) x.fst) false none)]
noncomputable def law122o0 {β : Type} (N0 : Nat) (x : ((List DotT) × Int × Unit)) (k0 : Int → Option β) (k1 : Option β) : Nat → Int → Option β
  | 0, _ => none
  | n + 1, i5 => (bif decide (i5 > 0) then (bif decide (0 ≤ i5) && decide (i5 < (↑(List.length x.fst) : Int)) then (Option.bind x.fst[i5.toNat]? fun v6 => (bif decide (v6.fst ≤ x.snd.fst) then k0 i5 else law122o0 N0 x k0 k1 n (IntKind.i64.wrap (i5 - 1)))) else none) else k1)
theorem leq122o0 {β : Type} (N0 : Nat) (x : Sh.Ts [DotSh.sl, Sh.int IntKind.i64]) (K : Exit → List AV → Heap → Option β) : ∀ (n : Nat) (i5 : Int), ln122o0 N0 n (t122o0 N0 x i5) (h122o0 N0 x i5) K = law122o0 N0 x (fun w7 => K (Exit.ret) (tx122o0o0 N0 x w7) (hx122o0o0 N0 x w7)) (K (Exit.exit 0) (tx122o0o1 N0 x) (hx122o0o1 N0 x)) n i5
  | 0, _ => rfl
  | n + 1, i5 => by
    have h : ln122o0 N0 (n + 1) (t122o0 N0 x i5) (h122o0 N0 x i5) K = (bif decide (i5 > 0) then (bif decide (0 ≤ i5) && decide (i5 < (↑(List.length x.fst) : Int)) then (Option.bind x.fst[i5.toNat]? fun v6 => (bif decide (v6.fst ≤ x.snd.fst) then K (Exit.ret) (tx122o0o0 N0 x i5) (hx122o0o0 N0 x i5) else ln122o0 N0 n (t122o0 N0 x (IntKind.i64.wrap (i5 - 1))) (h122o0 N0 x (IntKind.i64.wrap (i5 - 1))) K)) else none) else K (Exit.exit 0) (tx122o0o1 N0 x) (hx122o0o1 N0 x)) := by kernel_rfl
    rw [h]
    simp only [decide_self, decide_true, Nat.zero_add, Bool.and_true, Bool.true_and, cond_true, law122o0, leq122o0 N0 x K n]
theorem rest122o0o0 (N0 : Nat) (x : Sh.Ts [DotSh.sl, Sh.int IntKind.i64]) (w8 : Int) : rk122o0 N0 (Exit.ret) (tx122o0o0 N0 x w8) (hx122o0o0 N0 x w8) = some ((w8, ())) := by kernel_rfl
theorem rest122o0o1 (N0 : Nat) (x : Sh.Ts [DotSh.sl, Sh.int IntKind.i64]) : rk122o0 N0 (Exit.exit 0) (tx122o0o1 N0 x) (hx122o0o1 N0 x) = some ((0, ())) := by kernel_rfl
noncomputable def law122 (N0 : Nat) (x : ((List DotT) × Int × Unit)) : Option ((Int × Unit)) := (law122o0 N0 x (fun w8 => some ((w8, ()))) (some ((0, ()))) N0 (IntKind.i64.wrap ((↑(List.length x.fst) : Int) - 2)))
theorem eq122 (N0 : Nat) (x : Sh.Ts [DotSh.sl, Sh.int IntKind.i64]) : codeLaw Tryz.prog env122 200 (L122 N0) Tryz.f122 c122 [.sl (DotSh), .int .i64] [.int .i64] x = law122 N0 x := by
  have h : codeLaw Tryz.prog env122 200 (L122 N0) Tryz.f122 c122 [.sl (DotSh), .int .i64] [.int .i64] x = (ln122o0 N0 N0 (t122o0 N0 x (IntKind.i64.wrap ((↑(List.length x.fst) : Int) - 2))) (h122o0 N0 x (IntKind.i64.wrap ((↑(List.length x.fst) : Int) - 2))) (rk122o0 N0)) := by kernel_rfl
  rw [h]
  unfold law122
  simp only [decide_self, decide_true, Nat.zero_add, Bool.and_true, Bool.true_and, cond_true, leq122o0, rest122o0o0, rest122o0o1]
noncomputable def fn122 (x : ((List DotT) × Int × Unit)) : Option ((Int × Unit)) := law122 (10 ^ 30) x
theorem reads122 : Reads Tryz.prog 122 [.sl (DotSh), .int .i64] [.int .i64] fn122 := (Reads.of_code mixed (fn := Tryz.f122) (c := c122) Tryz.func122 (by kernel_rfl) (by kernel_rfl) env122 200 (L122_fit _) (by kernel_rfl)).to (eq122 _)
noncomputable def s122 : Summ Tryz.prog := reads122.summ
/- chicane/table.Cell$2 -/
noncomputable def c124 : Code := (Tryz.f124.body.getD .skip)
noncomputable def env124 : Env Tryz.prog := ⟨[], none⟩
noncomputable def s124 : Summ Tryz.prog := inlSumm onlyM mixed 124 Tryz.f124 c124 Tryz.func124 (by kernel_rfl) (by kernel_rfl) env124 200 [] (Loops.fit_nil)
/- sort.Search -/
noncomputable def c123x124 : Code := (Tryz.f123.body.getD .skip)
noncomputable def env123x124 : Env Tryz.prog := ⟨[s124], none⟩
noncomputable def b123x124_0 : Code := ((kid ((subAt c123x124 [0, 0, 1, 1]).getD .skip) 0).getD .skip)
noncomputable def kx123x124_0 : Exit → List Nat | .ret => [4] | .exit 0 => [5] | _ => []
noncomputable def Li123x124_0 (N0 : Nat) : Loops Tryz.prog := []
noncomputable def ls123x124_0 (N0 : Nat) : LSumm Tryz.prog := loopSumm mixed env123x124 200 (Li123x124_0 N0) b123x124_0 (Loops.fit_nil) [1, 5, 6] kx123x124_0 (N0)
noncomputable def ln123x124_0 {β : Type} (N0 : Nat) (n : Nat) (t : List AV) (h : Heap) (K : Exit → List AV → Heap → Option β) : Option β := loopN Tryz.prog env123x124 (Sh.nes [.int .i64] + Sh.nes [.sl (DotSh), .int .i64] + List.length (α := Sh) [.sl (DotSh), .int .i64]) 200 (Li123x124_0 N0) b123x124_0 [1, 5, 6] kx123x124_0 n t h K
noncomputable def L123x124 (N0 : Nat) : Loops Tryz.prog := [([0, 0, 1, 1], ls123x124_0 N0)]
theorem L123x124_fit (N0 : Nat) : (L123x124 N0).fit c123x124 := Loops.fit_cons (by kernel_rfl) (Loops.fit_nil)
noncomputable def K123x124 : Exit → List AV → Heap → Option (Sh.Ts [.int .i64]) := fun e t h => outK (P := Tryz.prog) Tryz.f123 [.int .i64] e t h
noncomputable def rk123x124_0 (N0 : Nat) : Exit → List AV → Heap → Option (Sh.Ts [.int .i64]) := (blkK 0 (seqK Tryz.prog env123x124 (Sh.nes [.int .i64] + Sh.nes [.sl (DotSh), .int .i64] + List.length (α := Sh) [.sl (DotSh), .int .i64]) 197 (L123x124 N0) [1, 1, 1] ((subAt c123x124 [1, 1, 1]).getD .skip) K123x124))
noncomputable def t123x124_0 (N0 : Nat) (xs : Sh.Ts [DotSh.sl, Sh.int IntKind.i64]) (i6 : Int) (i7 : (Sh.int IntKind.i64).T) : List AV := [AV.any, AV.fn (Fn.func 124) [] [AV.ptr 1 0, AV.ptr 2 0], AV.any, AV.any, AV.any, AV.val (Value.int IntKind.i64 i6), AV.val (Value.int IntKind.i64 i7), AV.any, AV.any, AV.any, AV.any, AV.any, AV.any, AV.any, AV.any, AV.any, AV.any, AV.any, AV.any, AV.any, AV.any, AV.any, AV.any, AV.any, AV.any, AV.any]
noncomputable def h123x124_0 (N0 : Nat) (xs : Sh.Ts [DotSh.sl, Sh.int IntKind.i64]) (i6 : Int) (i7 : (Sh.int IntKind.i64).T) : Heap := [Ent.live (Blk.mk (Cells.arr (Sh.st [Sh.int IntKind.i64, Sh.int IntKind.i64]) xs.fst) false none), Ent.live (Blk.mk (Cells.lit [AV.slc 0 0 (List.length xs.fst) Cap.low]) false none), Ent.live (Blk.mk (Cells.lit [AV.val (Value.int IntKind.i64 xs.snd.fst)]) false none)]
noncomputable def tx123x124_0_0 (N0 : Nat) (xs : Sh.Ts [DotSh.sl, Sh.int IntKind.i64]) (w9 : Int) : List AV := [AV.any, AV.any, AV.any, AV.any, AV.any, AV.val (Value.int IntKind.i64 w9), AV.any, AV.any, AV.any, AV.any, AV.any, AV.any, AV.any, AV.any, AV.any, AV.any, AV.any, AV.any, AV.any, AV.any, AV.any, AV.any, AV.any, AV.any, AV.any, AV.any]
noncomputable def hx123x124_0_0 (N0 : Nat) (xs : Sh.Ts [DotSh.sl, Sh.int IntKind.i64]) (w9 : Int) : Heap := [Ent.live (Blk.mk (Cells.arr (Sh.st [Sh.int IntKind.i64, Sh.int IntKind.i64]) xs.fst) false none), Ent.live (Blk.mk (Cells.lit [AV.slc 0 0 (List.length xs.fst) Cap.low]) false none), Ent.live (Blk.mk (Cells.lit [AV.val (Value.int IntKind.i64 xs.snd.fst)]) false none)]
noncomputable def law123x124_0 {β : Type} (N0 : Nat) (xs : ((List DotT) × Int × Unit)) (k0 : Int → Option β) : Nat → Int → Int → Option β
  | 0, _, _ => none
  | n + 1, i6, i7 => (bif decide (i6 < i7) then (bif decide (0 ≤ IntKind.i64.wrap ((IntKind.u64.wrap (IntKind.i64.wrap (i6 + i7))).fdiv (2 ^ min (Int.toNat 1) IntKind.u64.bits))) && decide (IntKind.i64.wrap ((IntKind.u64.wrap (IntKind.i64.wrap (i6 + i7))).fdiv (2 ^ min (Int.toNat 1) IntKind.u64.bits)) < (↑(List.length xs.fst) : Int)) then (Option.bind (xs.fst[(IntKind.i64.wrap ((IntKind.u64.wrap (IntKind.i64.wrap (i6 + i7))).fdiv (2 ^ min (Int.toNat 1) 64))).toNat]?) fun v8 => (bif !decide (v8.fst > xs.snd.fst) then law123x124_0 N0 xs k0 n (IntKind.i64.wrap (IntKind.i64.wrap ((IntKind.u64.wrap (IntKind.i64.wrap (i6 + i7))).fdiv (2 ^ min (Int.toNat 1) 64)) + 1)) i7 else law123x124_0 N0 xs k0 n i6 (IntKind.i64.wrap ((IntKind.u64.wrap (IntKind.i64.wrap (i6 + i7))).fdiv (2 ^ min (Int.toNat 1) 64))))) else none) else k0 i6)
theorem leq123x124_0 {β : Type} (N0 : Nat) (xs : Sh.Ts [DotSh.sl, Sh.int IntKind.i64]) (K : Exit → List AV → Heap → Option β) : ∀ (n : Nat) (i6 : Int) (i7 : (Sh.int IntKind.i64).T), ln123x124_0 N0 n (t123x124_0 N0 xs i6 i7) (h123x124_0 N0 xs i6 i7) K = law123x124_0 N0 xs (fun w9 => K (Exit.exit 0) (tx123x124_0_0 N0 xs w9) (hx123x124_0_0 N0 xs w9)) n i6 i7
  | 0, _, _ => rfl
  | n + 1, i6, i7 => by
    have h : ln123x124_0 N0 (n + 1) (t123x124_0 N0 xs i6 i7) (h123x124_0 N0 xs i6 i7) K = (bif decide (i6 < i7) then (bif decide (0 ≤ IntKind.i64.wrap ((IntKind.u64.wrap (IntKind.i64.wrap (i6 + i7))).fdiv (2 ^ min (Int.toNat 1) IntKind.u64.bits))) && decide (IntKind.i64.wrap ((IntKind.u64.wrap (IntKind.i64.wrap (i6 + i7))).fdiv (2 ^ min (Int.toNat 1) IntKind.u64.bits)) < (↑(List.length xs.fst) : Int)) then (Option.bind (xs.fst[(IntKind.i64.wrap ((IntKind.u64.wrap (IntKind.i64.wrap (i6 + i7))).fdiv (2 ^ min (Int.toNat 1) 64))).toNat]?) fun v8 => (bif !decide (v8.fst > xs.snd.fst) then ln123x124_0 N0 n (t123x124_0 N0 xs (IntKind.i64.wrap (IntKind.i64.wrap ((IntKind.u64.wrap (IntKind.i64.wrap (i6 + i7))).fdiv (2 ^ min (Int.toNat 1) 64)) + 1)) i7) (h123x124_0 N0 xs (IntKind.i64.wrap (IntKind.i64.wrap ((IntKind.u64.wrap (IntKind.i64.wrap (i6 + i7))).fdiv (2 ^ min (Int.toNat 1) 64)) + 1)) i7) K else ln123x124_0 N0 n (t123x124_0 N0 xs i6 (IntKind.i64.wrap ((IntKind.u64.wrap (IntKind.i64.wrap (i6 + i7))).fdiv (2 ^ min (Int.toNat 1) 64)))) (h123x124_0 N0 xs i6 (IntKind.i64.wrap ((IntKind.u64.wrap (IntKind.i64.wrap (i6 + i7))).fdiv (2 ^ min (Int.toNat 1) 64)))) K)) else none) else K (Exit.exit 0) (tx123x124_0_0 N0 xs i6) (hx123x124_0_0 N0 xs i6)) := by kernel_rfl
    rw [h]
    simp only [decide_self, decide_true, Nat.zero_add, Bool.and_true, Bool.true_and, cond_true, law123x124_0, leq123x124_0 N0 xs K n]
theorem rest123x124_0_0 (N0 : Nat) (xs : Sh.Ts [DotSh.sl, Sh.int IntKind.i64]) (w10 : Int) : rk123x124_0 N0 (Exit.exit 0) (tx123x124_0_0 N0 xs w10) (hx123x124_0_0 N0 xs w10) = some ((w10, ())) := by kernel_rfl
noncomputable def law123x124 (N0 : Nat) (x : (Int × Unit)) (xs : ((List DotT) × Int × Unit)) : Option ((Int × Unit)) := (law123x124_0 N0 xs (fun w10 => some ((w10, ()))) N0 0 x.fst)
theorem eq123x124 (N0 : Nat) (x : Sh.Ts [Sh.int IntKind.i64]) (xs : Sh.Ts [DotSh.sl, Sh.int IntKind.i64]) : codeLawC Tryz.prog env123x124 200 (L123x124 N0) Tryz.f123 c123x124 [.int .i64] 124 [.sl (DotSh), .int .i64] [.int .i64] x xs = law123x124 N0 x xs := by
  have h : codeLawC Tryz.prog env123x124 200 (L123x124 N0) Tryz.f123 c123x124 [.int .i64] 124 [.sl (DotSh), .int .i64] [.int .i64] x xs = (ln123x124_0 N0 N0 (t123x124_0 N0 xs 0 x.fst) (h123x124_0 N0 xs 0 x.fst) (rk123x124_0 N0)) := by kernel_rfl
  rw [h]
  unfold law123x124
  simp only [decide_self, decide_true, Nat.zero_add, Bool.and_true, Bool.true_and, cond_true, leq123x124_0, rest123x124_0_0]
noncomputable def fn123x124 (x : (Int × Unit)) (xs : ((List DotT) × Int × Unit)) : Option ((Int × Unit)) := law123x124 (10 ^ 30) x xs
theorem reads123x124 : ReadsC Tryz.prog 123 [.int .i64] 124 [.sl (DotSh), .int .i64] [.int .i64] fn123x124 := (ReadsC.of_code mixed (fn := Tryz.f123) (c := c123x124) Tryz.func123 (by kernel_rfl) (by kernel_rfl) env123x124 200 (L123x124_fit _) (by kernel_rfl)).to (eq123x124 _)
noncomputable def s123x124 : Summ Tryz.prog := reads123x124.summ (by kernel_rfl)
noncomputable def s120 : Summ Tryz.prog := s120x121
noncomputable def s123 : Summ Tryz.prog := s123x124
/- chicane/table.Cell -/
noncomputable def c78 : Code := (Tryz.f78.body.getD .skip)
noncomputable def env78 : Env Tryz.prog := ⟨[s121, s120, s122, s124, s123], none⟩
noncomputable def L78 : Loops Tryz.prog := []
theorem L78_fit : (L78).fit c78 := Loops.fit_nil
noncomputable def law78 (x : ((List DotT) × Int × Unit)) : Option ((Int × Unit)) := (bif decide ((↑(List.length x.fst) : Int) < 2) then some ((0, ())) else (Option.bind (fn120x121 (x.fst, ()) (x.fst, ())) fun v0 => (bif !v0.fst then (Option.bind (fn122 x) fun v1 => some ((v1.fst, ()))) else (Option.bind (fn123x124 (IntKind.i64.wrap ((↑(List.length x.fst) : Int) - 1), ()) x) fun v2 => some ((if 0 > IntKind.i64.wrap (v2.fst - 1) then 0 else IntKind.i64.wrap (v2.fst - 1), ()))))))
theorem eq78 (x : Sh.Ts [DotSh.sl, Sh.int IntKind.i64]) : codeLaw Tryz.prog env78 200 (L78) Tryz.f78 c78 [.sl (DotSh), .int .i64] [.int .i64] x = law78 x := by
  have h : codeLaw Tryz.prog env78 200 (L78) Tryz.f78 c78 [.sl (DotSh), .int .i64] [.int .i64] x = (bif decide ((↑(List.length x.fst) : Int) < 2) then some ((0, ())) else (bif decide (List.length x.fst = List.length x.fst) && true && (decide (List.length x.fst = List.length x.fst) && true) then (Option.bind (fn120x121 (x.fst, ()) (x.fst, ())) fun v0 => (bif !v0.fst then (bif decide (List.length x.fst = List.length x.fst) && true then (Option.bind (fn122 x) fun v1 => some ((v1.fst, ()))) else none) else (bif decide (List.length x.fst = List.length x.fst) && true then (Option.bind (fn123x124 (IntKind.i64.wrap ((↑(List.length x.fst) : Int) - 1), ()) x) fun v2 => some ((if 0 > IntKind.i64.wrap (v2.fst - 1) then 0 else IntKind.i64.wrap (v2.fst - 1), ()))) else none))) else none)) := by kernel_rfl
  rw [h]
  unfold law78
  simp only [decide_self, decide_true, Nat.zero_add, Bool.and_true, Bool.true_and, cond_true]
noncomputable def fn78 (x : ((List DotT) × Int × Unit)) : Option ((Int × Unit)) := law78 x
theorem reads78 : Reads Tryz.prog 78 [.sl (DotSh), .int .i64] [.int .i64] fn78 := (Reads.of_code mixed (fn := Tryz.f78) (c := c78) Tryz.func78 (by kernel_rfl) (by kernel_rfl) env78 200 (L78_fit) (by kernel_rfl)).to (eq78)
noncomputable def s78 : Summ Tryz.prog := reads78.summ
/- (*chicane/fx.M).Mix -/
noncomputable def c79 : Code := (Tryz.f79.body.getD .skip)
noncomputable def env79 : Env Tryz.prog := ⟨[s77, s40, s94], none⟩
noncomputable def L79 : Loops Tryz.prog := []
theorem L79_fit : (L79).fit c79 := Loops.fit_nil
noncomputable def law79 (m : MT) (x : (Int × Int × Int × Unit)) : Option (MT × (Int × Unit)) := (Option.bind (fn77 m (x.snd.fst, x.fst, ())) fun v0 => (Option.bind (fn40 v0.fst (v0.snd.fst, x.snd.snd)) fun v1 => (Option.bind (fn94 v1.fst (x.fst, v1.snd)) fun v2 => some (((v2.fst.fst, ()), v2.snd.fst, ())))))
theorem eq79 (m : MSh.T) (x : Sh.Ts [Sh.int IntKind.i64, Sh.int IntKind.i64, Sh.int IntKind.i64]) : codeLawM Tryz.prog env79 200 (L79) Tryz.f79 c79 (MSh) [.int .i64, .int .i64, .int .i64] [.int .i64] m x = law79 m x := by kernel_rfl
noncomputable def fn79 (m : MT) (x : (Int × Int × Int × Unit)) : Option (MT × (Int × Unit)) := law79 m x
theorem acts79 : Acts Tryz.prog 79 (MSh) [.int .i64, .int .i64, .int .i64] [.int .i64] fn79 := (Acts.of_code mixed (fn := Tryz.f79) (c := c79) Tryz.func79 (by kernel_rfl) (by kernel_rfl) env79 200 (L79_fit) (by kernel_rfl) (by kernel_rfl)).to (eq79)
noncomputable def s79 : Summ Tryz.prog := acts79.summ (by kernel_rfl)
/- chicane/table.Eval -/
noncomputable def c32 : Code := (Tryz.f32.body.getD .skip)
noncomputable def env32 : Env Tryz.prog := ⟨[s78, s77, s54, s79], none⟩
noncomputable def L32 : Loops Tryz.prog := []
theorem L32_fit : (L32).fit c32 := Loops.fit_nil
noncomputable def law32 (m : MT) (x : ((List DotT) × Int × Unit)) : Option (MT × (Int × Unit)) := (bif (↑(List.length x.fst) : Int) == 0 then some (((m.fst, ()), 0, ())) else (bif decide (0 ≤ 0) && decide (0 < (↑(List.length x.fst) : Int)) then (Option.bind (x.fst[Int.toNat 0]?) fun v0 => (bif decide (0 ≤ IntKind.i64.wrap ((↑(List.length x.fst) : Int) - 1)) && decide (IntKind.i64.wrap ((↑(List.length x.fst) : Int) - 1) < (↑(List.length x.fst) : Int)) then (Option.bind (x.fst[(IntKind.i64.wrap ((↑(List.length x.fst) : Int) - 1)).toNat]?) fun v1 => (bif decide (x.snd.fst ≤ v0.fst) then some (((m.fst, ()), v0.snd.fst, ())) else (bif decide (x.snd.fst ≥ v1.fst) then some (((m.fst, ()), v1.snd.fst, ())) else (Option.bind (fn78 x) fun v2 => (bif decide (0 ≤ v2.fst) && decide (v2.fst < (↑(List.length x.fst) : Int)) then (Option.bind (x.fst[Int.toNat v2.fst]?) fun v3 => (bif decide (0 ≤ IntKind.i64.wrap (v2.fst + 1)) && decide (IntKind.i64.wrap (v2.fst + 1) < (↑(List.length x.fst) : Int)) then (Option.bind (x.fst[(IntKind.i64.wrap (v2.fst + 1)).toNat]?) fun v4 => (Option.bind (fn77 m (x.snd.fst, v3.fst, ())) fun v5 => (Option.bind (fn77 v5.fst (v4.fst, v3.fst, ())) fun v6 => (Option.bind (fn54 v6.fst (v5.snd.fst, v6.snd)) fun v7 => (Option.bind (fn79 v7.fst (v3.snd.fst, v4.snd.fst, v7.snd)) fun v8 => some (((v8.fst.fst, ()), v8.snd.fst, ()))))))) else none)) else none))))) else none)) else none))
theorem eq32 (m : MSh.T) (x : Sh.Ts [DotSh.sl, Sh.int IntKind.i64]) : codeLawM Tryz.prog env32 200 (L32) Tryz.f32 c32 (MSh) [.sl (DotSh), .int .i64] [.int .i64] m x = law32 m x := by
  have h : codeLawM Tryz.prog env32 200 (L32) Tryz.f32 c32 (MSh) [.sl (DotSh), .int .i64] [.int .i64] m x = (bif (↑(List.length x.fst) : Int) == 0 then some (((m.fst, ()), 0, ())) else (bif decide (0 ≤ 0) && decide (0 < (↑(List.length x.fst) : Int)) then (Option.bind (x.fst[Int.toNat 0]?) fun v0 => (bif decide (0 ≤ IntKind.i64.wrap ((↑(List.length x.fst) : Int) - 1)) && decide (IntKind.i64.wrap ((↑(List.length x.fst) : Int) - 1) < (↑(List.length x.fst) : Int)) then (Option.bind (x.fst[(IntKind.i64.wrap ((↑(List.length x.fst) : Int) - 1)).toNat]?) fun v1 => (bif decide (x.snd.fst ≤ v0.fst) then some (((m.fst, ()), v0.snd.fst, ())) else (bif decide (x.snd.fst ≥ v1.fst) then some (((m.fst, ()), v1.snd.fst, ())) else (bif decide (List.length x.fst = List.length x.fst) && true then (Option.bind (fn78 x) fun v2 => (bif decide (0 ≤ v2.fst) && decide (v2.fst < (↑(List.length x.fst) : Int)) then (Option.bind (x.fst[Int.toNat v2.fst]?) fun v3 => (bif decide (0 ≤ IntKind.i64.wrap (v2.fst + 1)) && decide (IntKind.i64.wrap (v2.fst + 1) < (↑(List.length x.fst) : Int)) then (Option.bind (x.fst[(IntKind.i64.wrap (v2.fst + 1)).toNat]?) fun v4 => (Option.bind (fn77 m (x.snd.fst, v3.fst, ())) fun v5 => (Option.bind (fn77 v5.fst (v4.fst, v3.fst, ())) fun v6 => (Option.bind (fn54 v6.fst (v5.snd.fst, v6.snd)) fun v7 => (Option.bind (fn79 v7.fst (v3.snd.fst, v4.snd.fst, v7.snd)) fun v8 => some (((v8.fst.fst, ()), v8.snd.fst, ()))))))) else none)) else none)) else none)))) else none)) else none)) := by kernel_rfl
  rw [h]
  unfold law32
  simp only [decide_self, decide_true, Nat.zero_add, Bool.and_true, Bool.true_and, cond_true]
noncomputable def fn32 (m : MT) (x : ((List DotT) × Int × Unit)) : Option (MT × (Int × Unit)) := law32 m x
theorem acts32 : Acts Tryz.prog 32 (MSh) [.sl (DotSh), .int .i64] [.int .i64] fn32 := (Acts.of_code mixed (fn := Tryz.f32) (c := c32) Tryz.func32 (by kernel_rfl) (by kernel_rfl) env32 200 (L32_fit) (by kernel_rfl) (by kernel_rfl)).to (eq32)
noncomputable def s32 : Summ Tryz.prog := acts32.summ (by kernel_rfl)
/- chicane/fx.Clamp -/
noncomputable def c67 : Code := (Tryz.f67.body.getD .skip)
noncomputable def env67 : Env Tryz.prog := ⟨[], none⟩
noncomputable def L67 : Loops Tryz.prog := []
theorem L67_fit : (L67).fit c67 := Loops.fit_nil
noncomputable def law67 (x : (Int × Int × Int × Unit)) : Option ((Int × Unit)) := (bif decide (x.fst < x.snd.fst) then some ((x.snd.fst, ())) else (bif decide (x.fst > x.snd.snd.fst) then some ((x.snd.snd.fst, ())) else some ((x.fst, ()))))
theorem eq67 (x : Sh.Ts [Sh.int IntKind.i64, Sh.int IntKind.i64, Sh.int IntKind.i64]) : codeLaw Tryz.prog env67 200 (L67) Tryz.f67 c67 [.int .i64, .int .i64, .int .i64] [.int .i64] x = law67 x := by kernel_rfl
noncomputable def fn67 (x : (Int × Int × Int × Unit)) : Option ((Int × Unit)) := law67 x
theorem reads67 : Reads Tryz.prog 67 [.int .i64, .int .i64, .int .i64] [.int .i64] fn67 := (Reads.of_code mixed (fn := Tryz.f67) (c := c67) Tryz.func67 (by kernel_rfl) (by kernel_rfl) env67 200 (L67_fit) (by kernel_rfl)).to (eq67)
noncomputable def s67 : Summ Tryz.prog := reads67.summ
/- chicane/root.Len3 -/
noncomputable def c74 : Code := (Tryz.f74.body.getD .skip)
noncomputable def env74 : Env Tryz.prog := ⟨[s68], none⟩
noncomputable def L74 : Loops Tryz.prog := []
theorem L74_fit : (L74).fit c74 := Loops.fit_nil
noncomputable def law74 (m : MT) (x : (Int × Int × Int × Unit)) : Option (MT × (Int × Unit)) := (Option.bind (fn68 m ([x.fst, x.snd.fst, x.snd.snd.fst], ())) fun v0 => some (((v0.fst.fst, ()), v0.snd.fst, ())))
theorem eq74 (m : MSh.T) (x : Sh.Ts [Sh.int IntKind.i64, Sh.int IntKind.i64, Sh.int IntKind.i64]) : codeLawM Tryz.prog env74 200 (L74) Tryz.f74 c74 (MSh) [.int .i64, .int .i64, .int .i64] [.int .i64] m x = law74 m x := by kernel_rfl
noncomputable def fn74 (m : MT) (x : (Int × Int × Int × Unit)) : Option (MT × (Int × Unit)) := law74 m x
theorem acts74 : Acts Tryz.prog 74 (MSh) [.int .i64, .int .i64, .int .i64] [.int .i64] fn74 := (Acts.of_code mixed (fn := Tryz.f74) (c := c74) Tryz.func74 (by kernel_rfl) (by kernel_rfl) env74 200 (L74_fit) (by kernel_rfl) (by kernel_rfl)).to (eq74)
noncomputable def s74 : Summ Tryz.prog := acts74.summ (by kernel_rfl)
/- chicane/vec.Len -/
noncomputable def c28 : Code := (Tryz.f28.body.getD .skip)
noncomputable def env28 : Env Tryz.prog := ⟨[s74], none⟩
noncomputable def L28 : Loops Tryz.prog := []
theorem L28_fit : (L28).fit c28 := Loops.fit_nil
noncomputable def law28 (m : MT) (x : (V3T × Unit)) : Option (MT × (Int × Unit)) := (Option.bind (fn74 m x.fst) fun v0 => some (((v0.fst.fst, ()), v0.snd.fst, ())))
theorem eq28 (m : MSh.T) (x : Sh.Ts [V3Sh]) : codeLawM Tryz.prog env28 200 (L28) Tryz.f28 c28 (MSh) [V3Sh] [.int .i64] m x = law28 m x := by kernel_rfl
noncomputable def fn28 (m : MT) (x : (V3T × Unit)) : Option (MT × (Int × Unit)) := law28 m x
theorem acts28 : Acts Tryz.prog 28 (MSh) [V3Sh] [.int .i64] fn28 := (Acts.of_code mixed (fn := Tryz.f28) (c := c28) Tryz.func28 (by kernel_rfl) (by kernel_rfl) env28 200 (L28_fit) (by kernel_rfl) (by kernel_rfl)).to (eq28)
noncomputable def s28 : Summ Tryz.prog := acts28.summ (by kernel_rfl)
/- chicane/vec.Over$1 -/
noncomputable def c76 : Code := (Tryz.f76.body.getD .skip)
noncomputable def env76 : Env Tryz.prog := ⟨[s54], none⟩
noncomputable def s76 : Summ Tryz.prog := inlSumm onlyM mixed 76 Tryz.f76 c76 Tryz.func76 (by kernel_rfl) (by kernel_rfl) env76 200 [] (Loops.fit_nil)
/- chicane/vec.Scale$1 -/
noncomputable def c75 : Code := (Tryz.f75.body.getD .skip)
noncomputable def env75 : Env Tryz.prog := ⟨[s40], none⟩
noncomputable def s75 : Summ Tryz.prog := inlSumm onlyM mixed 75 Tryz.f75 c75 Tryz.func75 (by kernel_rfl) (by kernel_rfl) env75 200 [] (Loops.fit_nil)
/- chicane/vec.Clamp$1 -/
noncomputable def c66 : Code := (Tryz.f66.body.getD .skip)
noncomputable def env66 : Env Tryz.prog := ⟨[s67], none⟩
noncomputable def s66 : Summ Tryz.prog := inlSumm allRw mixed 66 Tryz.f66 c66 Tryz.func66 (by kernel_rfl) (by kernel_rfl) env66 200 [] (Loops.fit_nil)
/- chicane/vec.each -/
noncomputable def c65 : Code := (Tryz.f65.body.getD .skip)
noncomputable def env65 : Env Tryz.prog := ⟨[s76, s75, s66, s40, s94, s77], none⟩
noncomputable def s65 : Summ Tryz.prog := inlSumm allRw mixed 65 Tryz.f65 c65 Tryz.func65 (by kernel_rfl) (by kernel_rfl) env65 200 [] (Loops.fit_nil)
/- chicane/vec.Over -/
noncomputable def c30 : Code := (Tryz.f30.body.getD .skip)
noncomputable def env30 : Env Tryz.prog := ⟨[s76, s65], none⟩
noncomputable def L30 : Loops Tryz.prog := []
theorem L30_fit : (L30).fit c30 := Loops.fit_nil
noncomputable def law30 (m : MT) (x : (V3T × Int × Unit)) : Option (MT × (V3T × Unit)) := (Option.bind (fn54 m (x.fst.fst, x.snd)) fun v0 => (Option.bind (fn54 v0.fst (x.fst.snd.fst, x.snd)) fun v1 => (Option.bind (fn54 v1.fst (x.fst.snd.snd.fst, x.snd)) fun v2 => some (((v2.fst.fst, ()), (v0.snd.fst, v1.snd.fst, v2.snd.fst, ()), ())))))
theorem eq30 (m : MSh.T) (x : Sh.Ts [V3Sh, Sh.int IntKind.i64]) : codeLawM Tryz.prog env30 200 (L30) Tryz.f30 c30 (MSh) [V3Sh, .int .i64] [V3Sh] m x = law30 m x := by kernel_rfl
noncomputable def fn30 (m : MT) (x : (V3T × Int × Unit)) : Option (MT × (V3T × Unit)) := law30 m x
theorem acts30 : Acts Tryz.prog 30 (MSh) [V3Sh, .int .i64] [V3Sh] fn30 := (Acts.of_code mixed (fn := Tryz.f30) (c := c30) Tryz.func30 (by kernel_rfl) (by kernel_rfl) env30 200 (L30_fit) (by kernel_rfl) (by kernel_rfl)).to (eq30)
noncomputable def s30 : Summ Tryz.prog := acts30.summ (by kernel_rfl)
/- chicane/vec.Scale -/
noncomputable def c29 : Code := (Tryz.f29.body.getD .skip)
noncomputable def env29 : Env Tryz.prog := ⟨[s75, s65], none⟩
noncomputable def L29 : Loops Tryz.prog := []
theorem L29_fit : (L29).fit c29 := Loops.fit_nil
noncomputable def law29 (m : MT) (x : (V3T × Int × Unit)) : Option (MT × (V3T × Unit)) := (Option.bind (fn40 m (x.fst.fst, x.snd)) fun v0 => (Option.bind (fn40 v0.fst (x.fst.snd.fst, x.snd)) fun v1 => (Option.bind (fn40 v1.fst (x.fst.snd.snd.fst, x.snd)) fun v2 => some (((v2.fst.fst, ()), (v0.snd.fst, v1.snd.fst, v2.snd.fst, ()), ())))))
theorem eq29 (m : MSh.T) (x : Sh.Ts [V3Sh, Sh.int IntKind.i64]) : codeLawM Tryz.prog env29 200 (L29) Tryz.f29 c29 (MSh) [V3Sh, .int .i64] [V3Sh] m x = law29 m x := by kernel_rfl
noncomputable def fn29 (m : MT) (x : (V3T × Int × Unit)) : Option (MT × (V3T × Unit)) := law29 m x
theorem acts29 : Acts Tryz.prog 29 (MSh) [V3Sh, .int .i64] [V3Sh] fn29 := (Acts.of_code mixed (fn := Tryz.f29) (c := c29) Tryz.func29 (by kernel_rfl) (by kernel_rfl) env29 200 (L29_fit) (by kernel_rfl) (by kernel_rfl)).to (eq29)
noncomputable def s29 : Summ Tryz.prog := acts29.summ (by kernel_rfl)
/- chicane/chassis.Air -/
noncomputable def c11 : Code := (Tryz.f11.body.getD .skip)
noncomputable def env11 : Env Tryz.prog := ⟨[s28, s30, s32, s31, s29], none⟩
noncomputable def L11 : Loops Tryz.prog := []
theorem L11_fit : (L11).fit c11 := Loops.fit_nil
noncomputable def law11 (m : MT) (x : (CarT × V3T × Unit)) : Option (MT × (V3T × Unit)) := (Option.bind (fn28 m x.snd) fun v0 => (bif v0.snd.fst == 0 then some (((v0.fst.fst, ()), (0, 0, 0, ()), ())) else (Option.bind (fn30 v0.fst (x.snd.fst, v0.snd)) fun v1 => (Option.bind (fn32 v1.fst (x.fst.snd.snd.snd.snd.snd.snd.snd.fst, v0.snd)) fun v2 => (Option.bind (fn31 v2.fst v2.snd) fun v3 => (Option.bind (fn29 v3.fst (v1.snd.fst, v3.snd)) fun v4 => some (((v4.fst.fst, ()), (v4.snd.fst.fst, v4.snd.fst.snd.fst, v4.snd.fst.snd.snd.fst, ()), ()))))))))
theorem eq11 (m : MSh.T) (x : Sh.Ts [CarSh, V3Sh]) : codeLawM Tryz.prog env11 200 (L11) Tryz.f11 c11 (MSh) [CarSh, V3Sh] [V3Sh] m x = law11 m x := by
  have h : codeLawM Tryz.prog env11 200 (L11) Tryz.f11 c11 (MSh) [CarSh, V3Sh] [V3Sh] m x = (Option.bind (fn28 m x.snd) fun v0 => (bif v0.snd.fst == 0 then some (((v0.fst.fst, ()), (0, 0, 0, ()), ())) else (Option.bind (fn30 v0.fst (x.snd.fst, v0.snd)) fun v1 => (bif decide (List.length x.fst.snd.snd.snd.snd.snd.snd.snd.fst = List.length x.fst.snd.snd.snd.snd.snd.snd.snd.fst) && true then (Option.bind (fn32 v1.fst (x.fst.snd.snd.snd.snd.snd.snd.snd.fst, v0.snd)) fun v2 => (Option.bind (fn31 v2.fst v2.snd) fun v3 => (Option.bind (fn29 v3.fst (v1.snd.fst, v3.snd)) fun v4 => some (((v4.fst.fst, ()), (v4.snd.fst.fst, v4.snd.fst.snd.fst, v4.snd.fst.snd.snd.fst, ()), ()))))) else none)))) := by kernel_rfl
  rw [h]
  unfold law11
  simp only [decide_self, decide_true, Nat.zero_add, Bool.and_true, Bool.true_and, cond_true]
noncomputable def fn11 (m : MT) (x : (CarT × V3T × Unit)) : Option (MT × (V3T × Unit)) := law11 m x
theorem acts11 : Acts Tryz.prog 11 (MSh) [CarSh, V3Sh] [V3Sh] fn11 := (Acts.of_code mixed (fn := Tryz.f11) (c := c11) Tryz.func11 (by kernel_rfl) (by kernel_rfl) env11 200 (L11_fit) (by kernel_rfl) (by kernel_rfl)).to (eq11)
noncomputable def s11 : Summ Tryz.prog := acts11.summ (by kernel_rfl)
/- chicane/chicanelaw27.in -/
noncomputable def c112 : Code := (Tryz.f112.body.getD .skip)
noncomputable def env112 : Env Tryz.prog := ⟨[], none⟩
noncomputable def L112 : Loops Tryz.prog := []
theorem L112_fit : (L112).fit c112 := Loops.fit_nil
noncomputable def law112 (x : (Int × Int × Unit)) : Option ((Bool × Unit)) := (bif decide (x.fst ≤ x.snd.fst) then some ((decide (x.fst ≥ IntKind.i64.wrap (0 - x.snd.fst)), ())) else some ((false, ())))
theorem eq112 (x : Sh.Ts [Sh.int IntKind.i64, Sh.int IntKind.i64]) : codeLaw Tryz.prog env112 200 (L112) Tryz.f112 c112 [.int .i64, .int .i64] [.bool] x = law112 x := by kernel_rfl
noncomputable def fn112 (x : (Int × Int × Unit)) : Option ((Bool × Unit)) := law112 x
theorem reads112 : Reads Tryz.prog 112 [.int .i64, .int .i64] [.bool] fn112 := (Reads.of_code mixed (fn := Tryz.f112) (c := c112) Tryz.func112 (by kernel_rfl) (by kernel_rfl) env112 200 (L112_fit) (by kernel_rfl)).to (eq112)
noncomputable def s112 : Summ Tryz.prog := reads112.summ
/- chicane/vec.Clamp -/
noncomputable def c23 : Code := (Tryz.f23.body.getD .skip)
noncomputable def env23 : Env Tryz.prog := ⟨[s66, s65], none⟩
noncomputable def L23 : Loops Tryz.prog := []
theorem L23_fit : (L23).fit c23 := Loops.fit_nil
noncomputable def law23 (x : (V3T × Int × Unit)) : Option ((V3T × Unit)) := (Option.bind (fn67 (x.fst.fst, IntKind.i64.wrap (0 - x.snd.fst), x.snd)) fun v0 => (Option.bind (fn67 (x.fst.snd.fst, IntKind.i64.wrap (0 - x.snd.fst), x.snd)) fun v1 => (Option.bind (fn67 (x.fst.snd.snd.fst, IntKind.i64.wrap (0 - x.snd.fst), x.snd)) fun v2 => some (((v0.fst, v1.fst, v2.fst, ()), ())))))
theorem eq23 (x : Sh.Ts [V3Sh, Sh.int IntKind.i64]) : codeLaw Tryz.prog env23 200 (L23) Tryz.f23 c23 [V3Sh, .int .i64] [V3Sh] x = law23 x := by kernel_rfl
noncomputable def fn23 (x : (V3T × Int × Unit)) : Option ((V3T × Unit)) := law23 x
theorem reads23 : Reads Tryz.prog 23 [V3Sh, .int .i64] [V3Sh] fn23 := (Reads.of_code mixed (fn := Tryz.f23) (c := c23) Tryz.func23 (by kernel_rfl) (by kernel_rfl) env23 200 (L23_fit) (by kernel_rfl)).to (eq23)
noncomputable def s23 : Summ Tryz.prog := reads23.summ
/- chicane/root.Len4 -/
noncomputable def c25 : Code := (Tryz.f25.body.getD .skip)
noncomputable def env25 : Env Tryz.prog := ⟨[s68], none⟩
noncomputable def L25 : Loops Tryz.prog := []
theorem L25_fit : (L25).fit c25 := Loops.fit_nil
noncomputable def law25 (m : MT) (x : (Int × Int × Int × Int × Unit)) : Option (MT × (Int × Unit)) := (Option.bind (fn68 m ([x.fst, x.snd.fst, x.snd.snd.fst, x.snd.snd.snd.fst], ())) fun v0 => some (((v0.fst.fst, ()), v0.snd.fst, ())))
theorem eq25 (m : MSh.T) (x : Sh.Ts [Sh.int IntKind.i64, Sh.int IntKind.i64, Sh.int IntKind.i64, Sh.int IntKind.i64]) : codeLawM Tryz.prog env25 200 (L25) Tryz.f25 c25 (MSh) [.int .i64, .int .i64, .int .i64, .int .i64] [.int .i64] m x = law25 m x := by kernel_rfl
noncomputable def fn25 (m : MT) (x : (Int × Int × Int × Int × Unit)) : Option (MT × (Int × Unit)) := law25 m x
theorem acts25 : Acts Tryz.prog 25 (MSh) [.int .i64, .int .i64, .int .i64, .int .i64] [.int .i64] fn25 := (Acts.of_code mixed (fn := Tryz.f25) (c := c25) Tryz.func25 (by kernel_rfl) (by kernel_rfl) env25 200 (L25_fit) (by kernel_rfl) (by kernel_rfl)).to (eq25)
noncomputable def s25 : Summ Tryz.prog := acts25.summ (by kernel_rfl)
/- chicane/chicanelaw27.Body -/
noncomputable def c64 : Code := (Tryz.f64.body.getD .skip)
noncomputable def env64 : Env Tryz.prog := ⟨[s112, s23, s25], none⟩
noncomputable def L64 : Loops Tryz.prog := []
theorem L64_fit : (L64).fit c64 := Loops.fit_nil
noncomputable def law64 (x : (BodyT × Unit)) : Option ((Bool × Unit)) := (Option.bind (fn112 (x.fst.fst.fst, 281406257233920, ())) fun v0 => (bif v0.fst then (Option.bind (fn112 (x.fst.fst.snd.fst, 281406257233920, ())) fun v1 => (bif v1.fst then (Option.bind (fn112 (x.fst.fst.snd.snd.fst, 4329327034368, ())) fun v2 => (bif v2.fst then (Option.bind (fn23 (x.fst.snd.fst, 549755813888, ())) fun v3 => (bif v3.fst.fst == x.fst.snd.fst.fst && (v3.fst.snd.fst == x.fst.snd.fst.snd.fst && v3.fst.snd.snd.fst == x.fst.snd.fst.snd.snd.fst) then (Option.bind (fn23 (x.fst.snd.snd.snd.fst, 137438953472, ())) fun v4 => (bif v4.fst.fst == x.fst.snd.snd.snd.fst.fst && (v4.fst.snd.fst == x.fst.snd.snd.snd.fst.snd.fst && v4.fst.snd.snd.fst == x.fst.snd.snd.snd.fst.snd.snd.fst) then (Option.bind (fn25 (false, ()) x.fst.snd.snd.fst) fun v5 => (Option.bind (fn112 (IntKind.i64.wrap (v5.snd.fst - 4294967296), 16, ())) fun v6 => some ((v6.fst, ())))) else some ((false, ())))) else some ((false, ())))) else some ((false, ())))) else some ((false, ())))) else some ((false, ()))))
theorem eq64 (x : Sh.Ts [BodySh]) : codeLaw Tryz.prog env64 200 (L64) Tryz.f64 c64 [BodySh] [.bool] x = law64 x := by
  have h : codeLaw Tryz.prog env64 200 (L64) Tryz.f64 c64 [BodySh] [.bool] x = (Option.bind (fn112 (x.fst.fst.fst, 281406257233920, ())) fun v0 => (bif v0.fst then (Option.bind (fn112 (x.fst.fst.snd.fst, 281406257233920, ())) fun v1 => (bif v1.fst then (Option.bind (fn112 (x.fst.fst.snd.snd.fst, 4329327034368, ())) fun v2 => (bif v2.fst then (Option.bind (fn23 (x.fst.snd.fst, 549755813888, ())) fun v3 => (bif v3.fst.fst == x.fst.snd.fst.fst && (v3.fst.snd.fst == x.fst.snd.fst.snd.fst && (v3.fst.snd.snd.fst == x.fst.snd.fst.snd.snd.fst && true)) then (Option.bind (fn23 (x.fst.snd.snd.snd.fst, 137438953472, ())) fun v4 => (bif v4.fst.fst == x.fst.snd.snd.snd.fst.fst && (v4.fst.snd.fst == x.fst.snd.snd.snd.fst.snd.fst && (v4.fst.snd.snd.fst == x.fst.snd.snd.snd.fst.snd.snd.fst && true)) then (Option.bind (fn25 (false, ()) x.fst.snd.snd.fst) fun v5 => (Option.bind (fn112 (IntKind.i64.wrap (v5.snd.fst - 4294967296), 16, ())) fun v6 => some ((v6.fst, ())))) else some ((false, ())))) else some ((false, ())))) else some ((false, ())))) else some ((false, ())))) else some ((false, ())))) := by kernel_rfl
  rw [h]
  unfold law64
  simp only [decide_self, decide_true, Nat.zero_add, Bool.and_true, Bool.true_and, cond_true]
noncomputable def fn64 (x : (BodyT × Unit)) : Option ((Bool × Unit)) := law64 x
theorem reads64 : Reads Tryz.prog 64 [BodySh] [.bool] fn64 := (Reads.of_code mixed (fn := Tryz.f64) (c := c64) Tryz.func64 (by kernel_rfl) (by kernel_rfl) env64 200 (L64_fit) (by kernel_rfl)).to (eq64)
noncomputable def s64 : Summ Tryz.prog := reads64.summ
/- chicane/chicanelaw28.right -/
noncomputable def c22 : Code := (Tryz.f22.body.getD .skip)
noncomputable def env22 : Env Tryz.prog := ⟨[s63, s64, s23], none⟩
noncomputable def b22o0 : Code := ((kid ((subAt c22 [0, 1, 0, 1, 1, 1]).getD .skip) 0).getD .skip)
noncomputable def kx22o0 : Exit → List Nat | .ret => [6] | _ => []
noncomputable def Li22o0 (N0 : Nat) : Loops Tryz.prog := []
noncomputable def ls22o0 (N0 : Nat) : LSumm Tryz.prog := loopSumm mixed env22 200 (Li22o0 N0) b22o0 (Loops.fit_nil) [5, 9] kx22o0 (N0)
noncomputable def ln22o0 {β : Type} (N0 : Nat) (n : Nat) (t : List AV) (h : Heap) (K : Exit → List AV → Heap → Option β) : Option β := loopN Tryz.prog env22 (Sh.nes [CarSh, BodySh, AskSh]) 200 (Li22o0 N0) b22o0 [5, 9] kx22o0 n t h K
noncomputable def L22 (N0 : Nat) : Loops Tryz.prog := [([0, 1, 0, 1, 1, 1], ls22o0 N0)]
theorem L22_fit (N0 : Nat) : (L22 N0).fit c22 := Loops.fit_cons (by kernel_rfl) (Loops.fit_nil)
noncomputable def K22 : Exit → List AV → Heap → Option (Sh.Ts [.bool]) := fun e t h => outK (P := Tryz.prog) Tryz.f22 [.bool] e t h
noncomputable def rk22o0 (N0 : Nat) : Exit → List AV → Heap → Option (Sh.Ts [.bool]) := (blkK 0 (seqK Tryz.prog env22 (Sh.nes [CarSh, BodySh, AskSh]) 196 (L22 N0) [1, 1, 1, 1] ((subAt c22 [1, 1, 1, 1]).getD .skip) K22))
noncomputable def t22o0 (N0 : Nat) (x : Sh.Ts [CarSh, BodySh, AskSh]) (i19 : Int) : List AV := [AV.any, AV.any, AV.any, AV.any, AV.any, AV.ptr 8 0, AV.any, AV.any, AV.any, AV.val (Value.int IntKind.i64 i19), AV.any, AV.any, AV.any, AV.any, AV.any, AV.any, AV.any, AV.any, AV.any, AV.any, AV.any, AV.any, AV.any, AV.any, AV.any, AV.any, AV.any, AV.any, AV.any, AV.any, AV.any, AV.any, AV.any, AV.any, AV.any, AV.any, AV.any, AV.any, AV.any, AV.any, AV.any, AV.any, AV.any, AV.any, AV.any, AV.any, AV.any, AV.any, AV.any, AV.any, AV.any, AV.any, AV.any, AV.any, AV.any, AV.any, AV.any, AV.any, AV.any, AV.any, AV.any, AV.any, AV.any, AV.any, AV.any, AV.any, AV.any, AV.any, AV.any, AV.any, AV.any, AV.any, AV.any, AV.any, AV.any]
noncomputable def h22o0 (N0 : Nat) (x : Sh.Ts [CarSh, BodySh, AskSh]) (i19 : Int) : Heap := [Ent.live (Blk.mk (Cells.arr (Sh.st [Sh.int IntKind.i64, Sh.int IntKind.i64]) x.fst.snd.snd.snd.snd.fst) false none), Ent.live (Blk.mk (Cells.arr (Sh.int IntKind.i64) x.fst.snd.snd.snd.snd.snd.fst.fst) false none), Ent.live (Blk.mk (Cells.arr (Sh.int IntKind.i64) x.fst.snd.snd.snd.snd.snd.fst.snd.fst) false none), Ent.live (Blk.mk (Cells.arrs (Sh.int IntKind.i64) x.fst.snd.snd.snd.snd.snd.fst.snd.snd.fst) false none), Ent.live (Blk.mk (Cells.arr (Sh.st [Sh.int IntKind.i64, Sh.int IntKind.i64]) x.fst.snd.snd.snd.snd.snd.snd.fst) false none), Ent.live (Blk.mk (Cells.arr (Sh.st [Sh.int IntKind.i64, Sh.int IntKind.i64]) x.fst.snd.snd.snd.snd.snd.snd.snd.fst) false none), Ent.live (Blk.mk (Cells.arr (Sh.int IntKind.i64) x.fst.snd.snd.snd.snd.snd.snd.snd.snd.snd.snd.snd.snd.snd.snd.snd.snd.fst) false none), Ent.live (Blk.mk (Cells.arr (Sh.st [Sh.st [Sh.int IntKind.i64, Sh.int IntKind.i64, Sh.int IntKind.i64], Sh.st [Sh.int IntKind.i64, Sh.int IntKind.i64, Sh.int IntKind.i64]]) x.snd.snd.fst.fst) false none), Ent.live (Blk.mk (Cells.lit [AV.slc 7 0 (List.length x.snd.snd.fst.fst) Cap.low, AV.val (Value.int IntKind.i64 x.snd.snd.fst.snd.fst)]) true none)]
noncomputable def tx22o0o0 (N0 : Nat) (x : Sh.Ts [CarSh, BodySh, AskSh]) : List AV := [AV.any, AV.any, AV.any, AV.any, AV.any, AV.any, AV.val (Value.bool false), AV.any, AV.any, AV.any, AV.any, AV.any, AV.any, AV.any, AV.any, AV.any, AV.any, AV.any, AV.any, AV.any, AV.any, AV.any, AV.any, AV.any, AV.any, AV.any, AV.any, AV.any, AV.any, AV.any, AV.any, AV.any, AV.any, AV.any, AV.any, AV.any, AV.any, AV.any, AV.any, AV.any, AV.any, AV.any, AV.any, AV.any, AV.any, AV.any, AV.any, AV.any, AV.any, AV.any, AV.any, AV.any, AV.any, AV.any, AV.any, AV.any, AV.any, AV.any, AV.any, AV.any, AV.any, AV.any, AV.any, AV.any, AV.any, AV.any, AV.any, AV.any, AV.any, AV.any, AV.any, AV.any, AV.any, AV.any, AV.any]
noncomputable def hx22o0o0 (N0 : Nat) (x : Sh.Ts [CarSh, BodySh, AskSh]) : Heap := [Ent.live (Blk.mk (Cells.arr (Sh.st [Sh.int IntKind.i64, Sh.int IntKind.i64]) x.fst.snd.snd.snd.snd.fst) false none), Ent.live (Blk.mk (Cells.arr (Sh.int IntKind.i64) x.fst.snd.snd.snd.snd.snd.fst.fst) false none), Ent.live (Blk.mk (Cells.arr (Sh.int IntKind.i64) x.fst.snd.snd.snd.snd.snd.fst.snd.fst) false none), Ent.live (Blk.mk (Cells.arrs (Sh.int IntKind.i64) x.fst.snd.snd.snd.snd.snd.fst.snd.snd.fst) false none), Ent.live (Blk.mk (Cells.arr (Sh.st [Sh.int IntKind.i64, Sh.int IntKind.i64]) x.fst.snd.snd.snd.snd.snd.snd.fst) false none), Ent.live (Blk.mk (Cells.arr (Sh.st [Sh.int IntKind.i64, Sh.int IntKind.i64]) x.fst.snd.snd.snd.snd.snd.snd.snd.fst) false none), Ent.live (Blk.mk (Cells.arr (Sh.int IntKind.i64) x.fst.snd.snd.snd.snd.snd.snd.snd.snd.snd.snd.snd.snd.snd.snd.snd.snd.fst) false none), Ent.live (Blk.mk (Cells.arr (Sh.st [Sh.st [Sh.int IntKind.i64, Sh.int IntKind.i64, Sh.int IntKind.i64], Sh.st [Sh.int IntKind.i64, Sh.int IntKind.i64, Sh.int IntKind.i64]]) x.snd.snd.fst.fst) false none)]
noncomputable def tx22o0o1 (N0 : Nat) (x : Sh.Ts [CarSh, BodySh, AskSh]) : List AV := [AV.any, AV.any, AV.any, AV.any, AV.any, AV.any, AV.any, AV.any, AV.any, AV.any, AV.any, AV.any, AV.any, AV.any, AV.any, AV.any, AV.any, AV.any, AV.any, AV.any, AV.any, AV.any, AV.any, AV.any, AV.any, AV.any, AV.any, AV.any, AV.any, AV.any, AV.any, AV.any, AV.any, AV.any, AV.any, AV.any, AV.any, AV.any, AV.any, AV.any, AV.any, AV.any, AV.any, AV.any, AV.any, AV.any, AV.any, AV.any, AV.any, AV.any, AV.any, AV.any, AV.any, AV.any, AV.any, AV.any, AV.any, AV.any, AV.any, AV.any, AV.any, AV.any, AV.any, AV.any, AV.any, AV.any, AV.any, AV.any, AV.any, AV.any, AV.any, AV.any, AV.any, AV.any, AV.any]
noncomputable def hx22o0o1 (N0 : Nat) (x : Sh.Ts [CarSh, BodySh, AskSh]) : Heap := [Ent.live (Blk.mk (Cells.arr (Sh.st [Sh.int IntKind.i64, Sh.int IntKind.i64]) x.fst.snd.snd.snd.snd.fst) false none), Ent.live (Blk.mk (Cells.arr (Sh.int IntKind.i64) x.fst.snd.snd.snd.snd.snd.fst.fst) false none), Ent.live (Blk.mk (Cells.arr (Sh.int IntKind.i64) x.fst.snd.snd.snd.snd.snd.fst.snd.fst) false none), Ent.live (Blk.mk (Cells.arrs (Sh.int IntKind.i64) x.fst.snd.snd.snd.snd.snd.fst.snd.snd.fst) false none), Ent.live (Blk.mk (Cells.arr (Sh.st [Sh.int IntKind.i64, Sh.int IntKind.i64]) x.fst.snd.snd.snd.snd.snd.snd.fst) false none), Ent.live (Blk.mk (Cells.arr (Sh.st [Sh.int IntKind.i64, Sh.int IntKind.i64]) x.fst.snd.snd.snd.snd.snd.snd.snd.fst) false none), Ent.live (Blk.mk (Cells.arr (Sh.int IntKind.i64) x.fst.snd.snd.snd.snd.snd.snd.snd.snd.snd.snd.snd.snd.snd.snd.snd.snd.fst) false none), Ent.live (Blk.mk (Cells.arr (Sh.st [Sh.st [Sh.int IntKind.i64, Sh.int IntKind.i64, Sh.int IntKind.i64], Sh.st [Sh.int IntKind.i64, Sh.int IntKind.i64, Sh.int IntKind.i64]]) x.snd.snd.fst.fst) false none)]
noncomputable def law22o0 {β : Type} (N0 : Nat) (x : (CarT × BodyT × AskT × Unit)) (k0 : Option β) (k1 : Option β) : Nat → Int → Option β
  | 0, _ => none
  | n + 1, i19 => (bif decide (i19 < (↑(List.length x.snd.snd.fst.fst) : Int)) then (bif decide (0 ≤ i19) && decide (i19 < (↑(List.length x.snd.snd.fst.fst) : Int)) then (Option.bind x.snd.snd.fst.fst[i19.toNat]? fun v20 => (Option.bind (fn23 (v20.fst, 18014398509481984, ())) fun v21 => (bif decide (0 ≤ i19) && decide (i19 < (↑(List.length x.snd.snd.fst.fst) : Int)) then (Option.bind x.snd.snd.fst.fst[i19.toNat]? fun v22 => (bif !(v21.fst.fst == v22.fst.fst && (v21.fst.snd.fst == v22.fst.snd.fst && (v21.fst.snd.snd.fst == v22.fst.snd.snd.fst && true))) then k0 else (bif decide (0 ≤ i19) && decide (i19 < (↑(List.length x.snd.snd.fst.fst) : Int)) then (Option.bind x.snd.snd.fst.fst[i19.toNat]? fun v23 => (Option.bind (fn23 (v23.snd.fst, 34359738368, ())) fun v24 => (bif decide (0 ≤ i19) && decide (i19 < (↑(List.length x.snd.snd.fst.fst) : Int)) then (Option.bind x.snd.snd.fst.fst[i19.toNat]? fun v25 => (bif !(v24.fst.fst == v25.snd.fst.fst && (v24.fst.snd.fst == v25.snd.fst.snd.fst && (v24.fst.snd.snd.fst == v25.snd.fst.snd.snd.fst && true))) then k0 else law22o0 N0 x k0 k1 n (IntKind.i64.wrap (i19 + 1)))) else none))) else none))) else none))) else none) else k1)
theorem leq22o0 {β : Type} (N0 : Nat) (x : Sh.Ts [CarSh, BodySh, AskSh]) (K : Exit → List AV → Heap → Option β) : ∀ (n : Nat) (i19 : Int), ln22o0 N0 n (t22o0 N0 x i19) (h22o0 N0 x i19) K = law22o0 N0 x (K (Exit.ret) (tx22o0o0 N0 x) (hx22o0o0 N0 x)) (K (Exit.exit 0) (tx22o0o1 N0 x) (hx22o0o1 N0 x)) n i19
  | 0, _ => rfl
  | n + 1, i19 => by
    have h : ln22o0 N0 (n + 1) (t22o0 N0 x i19) (h22o0 N0 x i19) K = (bif decide (i19 < (↑(List.length x.snd.snd.fst.fst) : Int)) then (bif decide (0 ≤ i19) && decide (i19 < (↑(List.length x.snd.snd.fst.fst) : Int)) then (Option.bind x.snd.snd.fst.fst[i19.toNat]? fun v20 => (Option.bind (fn23 (v20.fst, 18014398509481984, ())) fun v21 => (bif decide (0 ≤ i19) && decide (i19 < (↑(List.length x.snd.snd.fst.fst) : Int)) then (Option.bind x.snd.snd.fst.fst[i19.toNat]? fun v22 => (bif !(v21.fst.fst == v22.fst.fst && (v21.fst.snd.fst == v22.fst.snd.fst && (v21.fst.snd.snd.fst == v22.fst.snd.snd.fst && true))) then K (Exit.ret) (tx22o0o0 N0 x) (hx22o0o0 N0 x) else (bif decide (0 ≤ i19) && decide (i19 < (↑(List.length x.snd.snd.fst.fst) : Int)) then (Option.bind x.snd.snd.fst.fst[i19.toNat]? fun v23 => (Option.bind (fn23 (v23.snd.fst, 34359738368, ())) fun v24 => (bif decide (0 ≤ i19) && decide (i19 < (↑(List.length x.snd.snd.fst.fst) : Int)) then (Option.bind x.snd.snd.fst.fst[i19.toNat]? fun v25 => (bif !(v24.fst.fst == v25.snd.fst.fst && (v24.fst.snd.fst == v25.snd.fst.snd.fst && (v24.fst.snd.snd.fst == v25.snd.fst.snd.snd.fst && true))) then K (Exit.ret) (tx22o0o0 N0 x) (hx22o0o0 N0 x) else ln22o0 N0 n (t22o0 N0 x (IntKind.i64.wrap (i19 + 1))) (h22o0 N0 x (IntKind.i64.wrap (i19 + 1))) K)) else none))) else none))) else none))) else none) else K (Exit.exit 0) (tx22o0o1 N0 x) (hx22o0o1 N0 x)) := by kernel_rfl
    rw [h]
    simp only [decide_self, decide_true, Nat.zero_add, Bool.and_true, Bool.true_and, cond_true, law22o0, leq22o0 N0 x K n]
theorem rest22o0o0 (N0 : Nat) (x : Sh.Ts [CarSh, BodySh, AskSh]) : rk22o0 N0 (Exit.ret) (tx22o0o0 N0 x) (hx22o0o0 N0 x) = some ((false, ())) := by kernel_rfl
theorem rest22o0o1 (N0 : Nat) (x : Sh.Ts [CarSh, BodySh, AskSh]) : rk22o0 N0 (Exit.exit 0) (tx22o0o1 N0 x) (hx22o0o1 N0 x) = some ((true, ())) := by kernel_rfl
noncomputable def law22 (N0 : Nat) (x : (CarT × BodyT × AskT × Unit)) : Option ((Bool × Unit)) := (Option.bind (fn63 (x.fst, ())) fun v0 => (bif v0.fst != 0 then some ((false, ())) else (Option.bind (fn64 (x.snd.fst, ())) fun v1 => (bif !v1.fst then some ((false, ())) else (bif decide ((↑(List.length x.snd.snd.fst.fst) : Int) > 8) then some ((false, ())) else (bif decide (x.snd.snd.fst.snd.fst < 0) then some ((false, ())) else (bif decide (x.snd.snd.fst.snd.fst > 71582788) then some ((false, ())) else (law22o0 N0 x (some ((false, ()))) (some ((true, ()))) N0 0))))))))
theorem eq22 (N0 : Nat) (x : Sh.Ts [CarSh, BodySh, AskSh]) : codeLaw Tryz.prog env22 200 (L22 N0) Tryz.f22 c22 [CarSh, BodySh, AskSh] [.bool] x = law22 N0 x := by
  have h : codeLaw Tryz.prog env22 200 (L22 N0) Tryz.f22 c22 [CarSh, BodySh, AskSh] [.bool] x = (bif decide (List.length x.fst.snd.snd.snd.snd.fst = List.length x.fst.snd.snd.snd.snd.fst) && (decide (List.length x.fst.snd.snd.snd.snd.snd.fst.fst = List.length x.fst.snd.snd.snd.snd.snd.fst.fst) && (decide (List.length x.fst.snd.snd.snd.snd.snd.fst.snd.fst = List.length x.fst.snd.snd.snd.snd.snd.fst.snd.fst) && (decide (List.length x.fst.snd.snd.snd.snd.snd.fst.snd.snd.fst = List.length x.fst.snd.snd.snd.snd.snd.fst.snd.snd.fst) && true)) && (decide (List.length x.fst.snd.snd.snd.snd.snd.snd.fst = List.length x.fst.snd.snd.snd.snd.snd.snd.fst) && (decide (List.length x.fst.snd.snd.snd.snd.snd.snd.snd.fst = List.length x.fst.snd.snd.snd.snd.snd.snd.snd.fst) && (decide (List.length x.fst.snd.snd.snd.snd.snd.snd.snd.snd.snd.snd.snd.snd.snd.snd.snd.snd.fst = List.length x.fst.snd.snd.snd.snd.snd.snd.snd.snd.snd.snd.snd.snd.snd.snd.snd.snd.fst) && true)))) && true then (Option.bind (fn63 (x.fst, ())) fun v0 => (bif v0.fst != 0 then some ((false, ())) else (Option.bind (fn64 (x.snd.fst, ())) fun v1 => (bif !v1.fst then some ((false, ())) else (bif decide ((↑(List.length x.snd.snd.fst.fst) : Int) > 8) then some ((false, ())) else (bif decide (x.snd.snd.fst.snd.fst < 0) then some ((false, ())) else (bif decide (x.snd.snd.fst.snd.fst > 71582788) then some ((false, ())) else (ln22o0 N0 N0 (t22o0 N0 x 0) (h22o0 N0 x 0) (rk22o0 N0))))))))) else none) := by kernel_rfl
  rw [h]
  unfold law22
  simp only [decide_self, decide_true, Nat.zero_add, Bool.and_true, Bool.true_and, cond_true, leq22o0, rest22o0o0, rest22o0o1]
noncomputable def fn22 (x : (CarT × BodyT × AskT × Unit)) : Option ((Bool × Unit)) := law22 (10 ^ 30) x
theorem reads22 : Reads Tryz.prog 22 [CarSh, BodySh, AskSh] [.bool] fn22 := (Reads.of_code mixed (fn := Tryz.f22) (c := c22) Tryz.func22 (by kernel_rfl) (by kernel_rfl) env22 200 (L22_fit _) (by kernel_rfl)).to (eq22 _)
noncomputable def s22 : Summ Tryz.prog := reads22.summ
/- chicane/chicanelaw17.whole -/
noncomputable def c92 : Code := (Tryz.f92.body.getD .skip)
noncomputable def env92 : Env Tryz.prog := ⟨[], none⟩
noncomputable def L92 : Loops Tryz.prog := []
theorem L92_fit : (L92).fit c92 := Loops.fit_nil
noncomputable def law92 (x : (Int × Unit)) : Option ((Int × Unit)) := some ((IntKind.i64.wrap (x.fst * 4294967296), ()))
theorem eq92 (x : Sh.Ts [Sh.int IntKind.i64]) : codeLaw Tryz.prog env92 200 (L92) Tryz.f92 c92 [.int .i64] [.int .i64] x = law92 x := by kernel_rfl
noncomputable def fn92 (x : (Int × Unit)) : Option ((Int × Unit)) := law92 x
theorem reads92 : Reads Tryz.prog 92 [.int .i64] [.int .i64] fn92 := (Reads.of_code mixed (fn := Tryz.f92) (c := c92) Tryz.func92 (by kernel_rfl) (by kernel_rfl) env92 200 (L92_fit) (by kernel_rfl)).to (eq92)
noncomputable def s92 : Summ Tryz.prog := reads92.summ
/- chicane/chicanelaw17.Sample -/
noncomputable def c50 : Code := (Tryz.f50.body.getD .skip)
noncomputable def env50 : Env Tryz.prog := ⟨[s92], none⟩
noncomputable def s50 : Summ Tryz.prog := inlSumm allRw mixed 50 Tryz.f50 c50 Tryz.func50 (by kernel_rfl) (by kernel_rfl) env50 200 [] (Loops.fit_nil)
/- (*chicane/fx.M).Ratio -/
noncomputable def c41 : Code := (Tryz.f41.body.getD .skip)
noncomputable def env41 : Env Tryz.prog := ⟨[s54], none⟩
noncomputable def L41 : Loops Tryz.prog := []
theorem L41_fit : (L41).fit c41 := Loops.fit_nil
noncomputable def law41 (m : MT) (x : (Int × Int × Unit)) : Option (MT × (Int × Unit)) := (Option.bind (fn54 m x) fun v0 => some (((v0.fst.fst, ()), v0.snd.fst, ())))
theorem eq41 (m : MSh.T) (x : Sh.Ts [Sh.int IntKind.i64, Sh.int IntKind.i64]) : codeLawM Tryz.prog env41 200 (L41) Tryz.f41 c41 (MSh) [.int .i64, .int .i64] [.int .i64] m x = law41 m x := by kernel_rfl
noncomputable def fn41 (m : MT) (x : (Int × Int × Unit)) : Option (MT × (Int × Unit)) := law41 m x
theorem acts41 : Acts Tryz.prog 41 (MSh) [.int .i64, .int .i64] [.int .i64] fn41 := (Acts.of_code mixed (fn := Tryz.f41) (c := c41) Tryz.func41 (by kernel_rfl) (by kernel_rfl) env41 200 (L41_fit) (by kernel_rfl) (by kernel_rfl)).to (eq41)
noncomputable def s41 : Summ Tryz.prog := acts41.summ (by kernel_rfl)
/- chicane/table.Cell$1 -/
noncomputable def ci121 : Code := (Tryz.f121.body.getD .skip)
noncomputable def envi121 : Env Tryz.prog := ⟨[], none⟩
noncomputable def i121 : Summ Tryz.prog := inlSumm onlyM mixed 121 Tryz.f121 ci121 Tryz.func121 (by kernel_rfl) (by kernel_rfl) envi121 200 [] (Loops.fit_nil)
/- sort.SliceIsSorted -/
noncomputable def ci120 : Code := (Tryz.f120.body.getD .skip)
noncomputable def envi120 : Env Tryz.prog := ⟨[s145, s146, i121], none⟩
noncomputable def i120 : Summ Tryz.prog := inlSumm onlyM mixed 120 Tryz.f120 ci120 Tryz.func120 (by kernel_rfl) (by kernel_rfl) envi120 200 [] (Loops.fit_nil)
/- chicane/table.last -/
noncomputable def ci122 : Code := (Tryz.f122.body.getD .skip)
noncomputable def envi122 : Env Tryz.prog := ⟨[], none⟩
noncomputable def i122 : Summ Tryz.prog := inlSumm onlyM mixed 122 Tryz.f122 ci122 Tryz.func122 (by kernel_rfl) (by kernel_rfl) envi122 200 [] (Loops.fit_nil)
/- chicane/table.Cell$2 -/
noncomputable def ci124 : Code := (Tryz.f124.body.getD .skip)
noncomputable def envi124 : Env Tryz.prog := ⟨[], none⟩
noncomputable def i124 : Summ Tryz.prog := inlSumm onlyM mixed 124 Tryz.f124 ci124 Tryz.func124 (by kernel_rfl) (by kernel_rfl) envi124 200 [] (Loops.fit_nil)
/- sort.Search -/
noncomputable def ci123 : Code := (Tryz.f123.body.getD .skip)
noncomputable def envi123 : Env Tryz.prog := ⟨[i124], none⟩
noncomputable def i123 : Summ Tryz.prog := inlSumm onlyM mixed 123 Tryz.f123 ci123 Tryz.func123 (by kernel_rfl) (by kernel_rfl) envi123 200 [] (Loops.fit_nil)
/- chicane/table.Cell -/
noncomputable def ci78 : Code := (Tryz.f78.body.getD .skip)
noncomputable def envi78 : Env Tryz.prog := ⟨[i121, i120, i122, i124, i123], none⟩
noncomputable def i78 : Summ Tryz.prog := inlSumm onlyM mixed 78 Tryz.f78 ci78 Tryz.func78 (by kernel_rfl) (by kernel_rfl) envi78 200 [] (Loops.fit_nil)
/- chicane/table.Eval -/
noncomputable def ci32 : Code := (Tryz.f32.body.getD .skip)
noncomputable def envi32 : Env Tryz.prog := ⟨[i78, s77, s54, s79], none⟩
noncomputable def i32 : Summ Tryz.prog := inlSumm onlyM mixed 32 Tryz.f32 ci32 Tryz.func32 (by kernel_rfl) (by kernel_rfl) envi32 200 [] (Loops.fit_nil)
/- chicane/chassis.Air -/
noncomputable def ci11 : Code := (Tryz.f11.body.getD .skip)
noncomputable def envi11 : Env Tryz.prog := ⟨[s28, s30, i32, s31, s29], none⟩
noncomputable def i11 : Summ Tryz.prog := inlSumm onlyM mixed 11 Tryz.f11 ci11 Tryz.func11 (by kernel_rfl) (by kernel_rfl) envi11 200 [] (Loops.fit_nil)
/- chicane/chassis.Force$1 -/
noncomputable def ci39 : Code := (Tryz.f39.body.getD .skip)
noncomputable def envi39 : Env Tryz.prog := ⟨[s41, s40, s31, i11], none⟩
noncomputable def i39 : Summ Tryz.prog := inlSumm onlyM mixed 39 Tryz.f39 ci39 Tryz.func39 (by kernel_rfl) (by kernel_rfl) envi39 200 [] (Loops.fit_nil)
/- chicane/vec.Add -/
noncomputable def c56 : Code := (Tryz.f56.body.getD .skip)
noncomputable def env56 : Env Tryz.prog := ⟨[s94, s65], none⟩
noncomputable def L56 : Loops Tryz.prog := []
theorem L56_fit : (L56).fit c56 := Loops.fit_nil
noncomputable def law56 (m : MT) (x : (V3T × V3T × Unit)) : Option (MT × (V3T × Unit)) := (Option.bind (fn94 m (x.fst.fst, x.snd.fst.fst, ())) fun v0 => (Option.bind (fn94 v0.fst (x.fst.snd.fst, x.snd.fst.snd.fst, ())) fun v1 => (Option.bind (fn94 v1.fst (x.fst.snd.snd.fst, x.snd.fst.snd.snd)) fun v2 => some (((v2.fst.fst, ()), (v0.snd.fst, v1.snd.fst, v2.snd.fst, ()), ())))))
theorem eq56 (m : MSh.T) (x : Sh.Ts [V3Sh, V3Sh]) : codeLawM Tryz.prog env56 200 (L56) Tryz.f56 c56 (MSh) [V3Sh, V3Sh] [V3Sh] m x = law56 m x := by kernel_rfl
noncomputable def fn56 (m : MT) (x : (V3T × V3T × Unit)) : Option (MT × (V3T × Unit)) := law56 m x
theorem acts56 : Acts Tryz.prog 56 (MSh) [V3Sh, V3Sh] [V3Sh] fn56 := (Acts.of_code mixed (fn := Tryz.f56) (c := c56) Tryz.func56 (by kernel_rfl) (by kernel_rfl) env56 200 (L56_fit) (by kernel_rfl) (by kernel_rfl)).to (eq56)
noncomputable def s56 : Summ Tryz.prog := acts56.summ (by kernel_rfl)
/- chicane/vec.turned -/
noncomputable def c91 : Code := (Tryz.f91.body.getD .skip)
noncomputable def env91 : Env Tryz.prog := ⟨[], none⟩
noncomputable def L91 : Loops Tryz.prog := []
theorem L91_fit : (L91).fit c91 := Loops.fit_nil
noncomputable def law91 (x : (V3T × Unit)) : Option ((V3T × Unit)) := some (((x.fst.snd.fst, x.fst.snd.snd.fst, x.fst.fst, ()), ()))
theorem eq91 (x : Sh.Ts [V3Sh]) : codeLaw Tryz.prog env91 200 (L91) Tryz.f91 c91 [V3Sh] [V3Sh] x = law91 x := by kernel_rfl
noncomputable def fn91 (x : (V3T × Unit)) : Option ((V3T × Unit)) := law91 x
theorem reads91 : Reads Tryz.prog 91 [V3Sh] [V3Sh] fn91 := (Reads.of_code mixed (fn := Tryz.f91) (c := c91) Tryz.func91 (by kernel_rfl) (by kernel_rfl) env91 200 (L91_fit) (by kernel_rfl)).to (eq91)
noncomputable def s91 : Summ Tryz.prog := reads91.summ
/- chicane/vec.Sub -/
noncomputable def c53 : Code := (Tryz.f53.body.getD .skip)
noncomputable def env53 : Env Tryz.prog := ⟨[s77, s65], none⟩
noncomputable def L53 : Loops Tryz.prog := []
theorem L53_fit : (L53).fit c53 := Loops.fit_nil
noncomputable def law53 (m : MT) (x : (V3T × V3T × Unit)) : Option (MT × (V3T × Unit)) := (Option.bind (fn77 m (x.fst.fst, x.snd.fst.fst, ())) fun v0 => (Option.bind (fn77 v0.fst (x.fst.snd.fst, x.snd.fst.snd.fst, ())) fun v1 => (Option.bind (fn77 v1.fst (x.fst.snd.snd.fst, x.snd.fst.snd.snd)) fun v2 => some (((v2.fst.fst, ()), (v0.snd.fst, v1.snd.fst, v2.snd.fst, ()), ())))))
theorem eq53 (m : MSh.T) (x : Sh.Ts [V3Sh, V3Sh]) : codeLawM Tryz.prog env53 200 (L53) Tryz.f53 c53 (MSh) [V3Sh, V3Sh] [V3Sh] m x = law53 m x := by kernel_rfl
noncomputable def fn53 (m : MT) (x : (V3T × V3T × Unit)) : Option (MT × (V3T × Unit)) := law53 m x
theorem acts53 : Acts Tryz.prog 53 (MSh) [V3Sh, V3Sh] [V3Sh] fn53 := (Acts.of_code mixed (fn := Tryz.f53) (c := c53) Tryz.func53 (by kernel_rfl) (by kernel_rfl) env53 200 (L53_fit) (by kernel_rfl) (by kernel_rfl)).to (eq53)
noncomputable def s53 : Summ Tryz.prog := acts53.summ (by kernel_rfl)
/- chicane/vec.Cross -/
noncomputable def c47 : Code := (Tryz.f47.body.getD .skip)
noncomputable def env47 : Env Tryz.prog := ⟨[s91, s40, s65, s53], none⟩
noncomputable def L47 : Loops Tryz.prog := []
theorem L47_fit : (L47).fit c47 := Loops.fit_nil
noncomputable def law47 (m : MT) (x : (V3T × V3T × Unit)) : Option (MT × (V3T × Unit)) := (Option.bind (fn40 m (x.fst.snd.fst, x.snd.fst.snd.snd)) fun v0 => (Option.bind (fn40 v0.fst (x.fst.snd.snd.fst, x.snd.fst.fst, ())) fun v1 => (Option.bind (fn40 v1.fst (x.fst.fst, x.snd.fst.snd.fst, ())) fun v2 => (Option.bind (fn40 v2.fst (x.fst.snd.snd.fst, x.snd.fst.snd.fst, ())) fun v3 => (Option.bind (fn40 v3.fst (x.fst.fst, x.snd.fst.snd.snd)) fun v4 => (Option.bind (fn40 v4.fst (x.fst.snd.fst, x.snd.fst.fst, ())) fun v5 => (Option.bind (fn53 v5.fst ((v0.snd.fst, v1.snd.fst, v2.snd), (v3.snd.fst, v4.snd.fst, v5.snd), ())) fun v6 => some (((v6.fst.fst, ()), (v6.snd.fst.fst, v6.snd.fst.snd.fst, v6.snd.fst.snd.snd.fst, ()), ())))))))))
theorem eq47 (m : MSh.T) (x : Sh.Ts [V3Sh, V3Sh]) : codeLawM Tryz.prog env47 200 (L47) Tryz.f47 c47 (MSh) [V3Sh, V3Sh] [V3Sh] m x = law47 m x := by kernel_rfl
noncomputable def fn47 (m : MT) (x : (V3T × V3T × Unit)) : Option (MT × (V3T × Unit)) := law47 m x
theorem acts47 : Acts Tryz.prog 47 (MSh) [V3Sh, V3Sh] [V3Sh] fn47 := (Acts.of_code mixed (fn := Tryz.f47) (c := c47) Tryz.func47 (by kernel_rfl) (by kernel_rfl) env47 200 (L47_fit) (by kernel_rfl) (by kernel_rfl)).to (eq47)
noncomputable def s47 : Summ Tryz.prog := acts47.summ (by kernel_rfl)
/- chicane/chassis.sum -/
noncomputable def ci38 : Code := (Tryz.f38.body.getD .skip)
noncomputable def envi38 : Env Tryz.prog := ⟨[s56, s23, s41, s40, s31, i11, s47], none⟩
noncomputable def rci38o0 : Code := ((subAt ci38 [0, 1, 0, 1, 1]).getD .skip)
noncomputable def rii38o0 : Code := (Tryz.f39.body.getD .skip)
noncomputable def rsi38_0x : LSumm Tryz.prog := rangeSumm mixed envi38 (fun _ => True.intro) 200 [] (rgG rci38o0) (rgP rci38o0) (rgA rci38o0) (rgB rci38o0) Loops.fit_nil [s41, s40, s31, i11] 200 (fun _ => []) 39 Tryz.f39 rii38o0 Tryz.func39 (by kernel_rfl) (by kernel_rfl) (by kernel_rfl) (fun _ => Loops.fit_nil)
noncomputable def rii38_0b : Code := (Tryz.f46.body.getD .skip)
noncomputable def rsi38_0y : LSumm Tryz.prog := rangeSumm mixed envi38 (fun _ => True.intro) 200 [] (rgG rci38o0) (rgP rci38o0) (rgA rci38o0) (rgB rci38o0) Loops.fit_nil [s47] 200 (fun _ => []) 46 Tryz.f46 rii38_0b Tryz.func46 (by kernel_rfl) (by kernel_rfl) (by kernel_rfl) (fun _ => Loops.fit_nil)
noncomputable def rsi38o0 : LSumm Tryz.prog := LSumm.either (isFn (rgG rci38o0) 39) rsi38_0x rsi38_0y rfl
noncomputable def i38 : Summ Tryz.prog := inlSumm onlyM mixed 38 Tryz.f38 ci38 Tryz.func38 (by kernel_rfl) (by kernel_rfl) envi38 200 [([0, 1, 0, 1, 1], rsi38o0)] (Loops.fit_cons (by kernel_rfl) (Loops.fit_nil))
/- chicane/chassis.Force -/
noncomputable def ci13 : Code := (Tryz.f13.body.getD .skip)
noncomputable def envi13 : Env Tryz.prog := ⟨[i39, i38], none⟩
noncomputable def i13 : Summ Tryz.prog := inlSumm onlyM mixed 13 Tryz.f13 ci13 Tryz.func13 (by kernel_rfl) (by kernel_rfl) envi13 200 [] (Loops.fit_nil)
/- chicane/quat.Matrix$1 -/
noncomputable def c93 : Code := (Tryz.f93.body.getD .skip)
noncomputable def env93 : Env Tryz.prog := ⟨[s94], none⟩
noncomputable def s93 : Summ Tryz.prog := inlSumm onlyM mixed 93 Tryz.f93 c93 Tryz.func93 (by kernel_rfl) (by kernel_rfl) env93 200 [] (Loops.fit_nil)
/- chicane/quat.Matrix$2 -/
noncomputable def c95 : Code := (Tryz.f95.body.getD .skip)
noncomputable def env95 : Env Tryz.prog := ⟨[s40, s94, s93], none⟩
noncomputable def s95 : Summ Tryz.prog := inlSumm onlyM mixed 95 Tryz.f95 c95 Tryz.func95 (by kernel_rfl) (by kernel_rfl) env95 200 [] (Loops.fit_nil)
/- chicane/quat.Matrix$3 -/
noncomputable def c96 : Code := (Tryz.f96.body.getD .skip)
noncomputable def env96 : Env Tryz.prog := ⟨[s40, s77, s93], none⟩
noncomputable def s96 : Summ Tryz.prog := inlSumm onlyM mixed 96 Tryz.f96 c96 Tryz.func96 (by kernel_rfl) (by kernel_rfl) env96 200 [] (Loops.fit_nil)
/- chicane/quat.Matrix$4 -/
noncomputable def c97 : Code := (Tryz.f97.body.getD .skip)
noncomputable def env97 : Env Tryz.prog := ⟨[s77, s95, s93], none⟩
noncomputable def s97 : Summ Tryz.prog := inlSumm onlyM mixed 97 Tryz.f97 c97 Tryz.func97 (by kernel_rfl) (by kernel_rfl) env97 200 [] (Loops.fit_nil)
/- chicane/quat.Matrix -/
noncomputable def c52 : Code := (Tryz.f52.body.getD .skip)
noncomputable def env52 : Env Tryz.prog := ⟨[s93, s95, s96, s97], none⟩
noncomputable def L52 : Loops Tryz.prog := []
theorem L52_fit : (L52).fit c52 := Loops.fit_nil
noncomputable def law52 (m : MT) (x : (QuatT × Unit)) : Option (MT × (MatT × Unit)) := (Option.bind (fn40 m (x.fst.snd.snd.fst, x.fst.snd.snd.fst, ())) fun v0 => (Option.bind (fn40 v0.fst (x.fst.snd.snd.snd.fst, x.fst.snd.snd.snd)) fun v1 => (Option.bind (fn94 v1.fst (v0.snd.fst, v1.snd)) fun v2 => (Option.bind (fn94 v2.fst (v2.snd.fst, v2.snd)) fun v3 => (Option.bind (fn77 v3.fst (4294967296, v3.snd)) fun v4 => (Option.bind (fn40 v4.fst (x.fst.snd.fst, x.fst.snd.snd.fst, ())) fun v5 => (Option.bind (fn40 v5.fst (x.fst.fst, x.fst.snd.snd.snd)) fun v6 => (Option.bind (fn77 v6.fst (v5.snd.fst, v6.snd)) fun v7 => (Option.bind (fn94 v7.fst (v7.snd.fst, v7.snd)) fun v8 => (Option.bind (fn40 v8.fst (x.fst.snd.fst, x.fst.snd.snd.snd)) fun v9 => (Option.bind (fn40 v9.fst (x.fst.fst, x.fst.snd.snd.fst, ())) fun v10 => (Option.bind (fn94 v10.fst (v9.snd.fst, v10.snd)) fun v11 => (Option.bind (fn94 v11.fst (v11.snd.fst, v11.snd)) fun v12 => (Option.bind (fn40 v12.fst (x.fst.snd.fst, x.fst.snd.snd.fst, ())) fun v13 => (Option.bind (fn40 v13.fst (x.fst.fst, x.fst.snd.snd.snd)) fun v14 => (Option.bind (fn94 v14.fst (v13.snd.fst, v14.snd)) fun v15 => (Option.bind (fn94 v15.fst (v15.snd.fst, v15.snd)) fun v16 => (Option.bind (fn40 v16.fst (x.fst.snd.fst, x.fst.snd.fst, ())) fun v17 => (Option.bind (fn40 v17.fst (x.fst.snd.snd.snd.fst, x.fst.snd.snd.snd)) fun v18 => (Option.bind (fn94 v18.fst (v17.snd.fst, v18.snd)) fun v19 => (Option.bind (fn94 v19.fst (v19.snd.fst, v19.snd)) fun v20 => (Option.bind (fn77 v20.fst (4294967296, v20.snd)) fun v21 => (Option.bind (fn40 v21.fst x.fst.snd.snd) fun v22 => (Option.bind (fn40 v22.fst (x.fst.fst, x.fst.snd.fst, ())) fun v23 => (Option.bind (fn77 v23.fst (v22.snd.fst, v23.snd)) fun v24 => (Option.bind (fn94 v24.fst (v24.snd.fst, v24.snd)) fun v25 => (Option.bind (fn40 v25.fst (x.fst.snd.fst, x.fst.snd.snd.snd)) fun v26 => (Option.bind (fn40 v26.fst (x.fst.fst, x.fst.snd.snd.fst, ())) fun v27 => (Option.bind (fn77 v27.fst (v26.snd.fst, v27.snd)) fun v28 => (Option.bind (fn94 v28.fst (v28.snd.fst, v28.snd)) fun v29 => (Option.bind (fn40 v29.fst x.fst.snd.snd) fun v30 => (Option.bind (fn40 v30.fst (x.fst.fst, x.fst.snd.fst, ())) fun v31 => (Option.bind (fn94 v31.fst (v30.snd.fst, v31.snd)) fun v32 => (Option.bind (fn94 v32.fst (v32.snd.fst, v32.snd)) fun v33 => (Option.bind (fn40 v33.fst (x.fst.snd.fst, x.fst.snd.fst, ())) fun v34 => (Option.bind (fn40 v34.fst (x.fst.snd.snd.fst, x.fst.snd.snd.fst, ())) fun v35 => (Option.bind (fn94 v35.fst (v34.snd.fst, v35.snd)) fun v36 => (Option.bind (fn94 v36.fst (v36.snd.fst, v36.snd)) fun v37 => (Option.bind (fn77 v37.fst (4294967296, v37.snd)) fun v38 => some (((v38.fst.fst, ()), ((v4.snd.fst, v8.snd.fst, v12.snd.fst, ()), (v16.snd.fst, v21.snd.fst, v25.snd.fst, ()), (v29.snd.fst, v33.snd.fst, v38.snd.fst, ()), ()), ())))))))))))))))))))))))))))))))))))))))))
theorem eq52 (m : MSh.T) (x : Sh.Ts [QuatSh]) : codeLawM Tryz.prog env52 200 (L52) Tryz.f52 c52 (MSh) [QuatSh] [MatSh] m x = law52 m x := by kernel_rfl
noncomputable def fn52 (m : MT) (x : (QuatT × Unit)) : Option (MT × (MatT × Unit)) := law52 m x
theorem acts52 : Acts Tryz.prog 52 (MSh) [QuatSh] [MatSh] fn52 := (Acts.of_code mixed (fn := Tryz.f52) (c := c52) Tryz.func52 (by kernel_rfl) (by kernel_rfl) env52 200 (L52_fit) (by kernel_rfl) (by kernel_rfl)).to (eq52)
noncomputable def s52 : Summ Tryz.prog := acts52.summ (by kernel_rfl)
/- chicane/chassis.Torque$1 -/
noncomputable def ci46 : Code := (Tryz.f46.body.getD .skip)
noncomputable def envi46 : Env Tryz.prog := ⟨[s47], none⟩
noncomputable def i46 : Summ Tryz.prog := inlSumm onlyM mixed 46 Tryz.f46 ci46 Tryz.func46 (by kernel_rfl) (by kernel_rfl) envi46 200 [] (Loops.fit_nil)
/- chicane/chassis.Torque -/
noncomputable def ci15 : Code := (Tryz.f15.body.getD .skip)
noncomputable def envi15 : Env Tryz.prog := ⟨[i46, i38], none⟩
noncomputable def i15 : Summ Tryz.prog := inlSumm onlyM mixed 15 Tryz.f15 ci15 Tryz.func15 (by kernel_rfl) (by kernel_rfl) envi15 200 [] (Loops.fit_nil)
/- chicane/quat.Back -/
noncomputable def c51 : Code := (Tryz.f51.body.getD .skip)
noncomputable def env51 : Env Tryz.prog := ⟨[s29, s56], none⟩
noncomputable def L51 : Loops Tryz.prog := []
theorem L51_fit : (L51).fit c51 := Loops.fit_nil
noncomputable def law51 (m : MT) (x : (MatT × V3T × Unit)) : Option (MT × (V3T × Unit)) := (Option.bind (fn29 m (x.fst.fst, x.snd.fst.fst, ())) fun v0 => (Option.bind (fn29 v0.fst (x.fst.snd.fst, x.snd.fst.snd.fst, ())) fun v1 => (Option.bind (fn29 v1.fst (x.fst.snd.snd.fst, x.snd.fst.snd.snd)) fun v2 => (Option.bind (fn56 v2.fst (v0.snd.fst, v1.snd)) fun v3 => (Option.bind (fn56 v3.fst (v3.snd.fst, v2.snd)) fun v4 => some (((v4.fst.fst, ()), (v4.snd.fst.fst, v4.snd.fst.snd.fst, v4.snd.fst.snd.snd.fst, ()), ())))))))
theorem eq51 (m : MSh.T) (x : Sh.Ts [MatSh, V3Sh]) : codeLawM Tryz.prog env51 200 (L51) Tryz.f51 c51 (MSh) [MatSh, V3Sh] [V3Sh] m x = law51 m x := by kernel_rfl
noncomputable def fn51 (m : MT) (x : (MatT × V3T × Unit)) : Option (MT × (V3T × Unit)) := law51 m x
theorem acts51 : Acts Tryz.prog 51 (MSh) [MatSh, V3Sh] [V3Sh] fn51 := (Acts.of_code mixed (fn := Tryz.f51) (c := c51) Tryz.func51 (by kernel_rfl) (by kernel_rfl) env51 200 (L51_fit) (by kernel_rfl) (by kernel_rfl)).to (eq51)
noncomputable def s51 : Summ Tryz.prog := acts51.summ (by kernel_rfl)
/- chicane/chassis.each -/
noncomputable def c49 : Code := (Tryz.f49.body.getD .skip)
noncomputable def env49 : Env Tryz.prog := ⟨[s40, s54], none⟩
noncomputable def s49 : Summ Tryz.prog := inlSumm allRw mixed 49 Tryz.f49 c49 Tryz.func49 (by kernel_rfl) (by kernel_rfl) env49 200 [] (Loops.fit_nil)
/- chicane/chassis.Gyro -/
noncomputable def ci17 : Code := (Tryz.f17.body.getD .skip)
noncomputable def envi17 : Env Tryz.prog := ⟨[s40, s49, s47], none⟩
noncomputable def i17 : Summ Tryz.prog := inlSumm onlyM mixed 17 Tryz.f17 ci17 Tryz.func17 (by kernel_rfl) (by kernel_rfl) envi17 200 [] (Loops.fit_nil)
/- chicane/chassis.on -/
noncomputable def c55 : Code := (Tryz.f55.body.getD .skip)
noncomputable def env55 : Env Tryz.prog := ⟨[s29, s56, s23], none⟩
noncomputable def L55 : Loops Tryz.prog := []
theorem L55_fit : (L55).fit c55 := Loops.fit_nil
noncomputable def law55 (m : MT) (x : (V3T × V3T × Int × Int × Unit)) : Option (MT × (V3T × Unit)) := (Option.bind (fn29 m (x.snd.fst, x.snd.snd.fst, ())) fun v0 => (Option.bind (fn56 v0.fst (x.fst, v0.snd)) fun v1 => (Option.bind (fn23 (v1.snd.fst, x.snd.snd.snd)) fun v2 => some (((v1.fst.fst, ()), (v2.fst.fst, v2.fst.snd.fst, v2.fst.snd.snd.fst, ()), ())))))
theorem eq55 (m : MSh.T) (x : Sh.Ts [V3Sh, V3Sh, Sh.int IntKind.i64, Sh.int IntKind.i64]) : codeLawM Tryz.prog env55 200 (L55) Tryz.f55 c55 (MSh) [V3Sh, V3Sh, .int .i64, .int .i64] [V3Sh] m x = law55 m x := by kernel_rfl
noncomputable def fn55 (m : MT) (x : (V3T × V3T × Int × Int × Unit)) : Option (MT × (V3T × Unit)) := law55 m x
theorem acts55 : Acts Tryz.prog 55 (MSh) [V3Sh, V3Sh, .int .i64, .int .i64] [V3Sh] fn55 := (Acts.of_code mixed (fn := Tryz.f55) (c := c55) Tryz.func55 (by kernel_rfl) (by kernel_rfl) env55 200 (L55_fit) (by kernel_rfl) (by kernel_rfl)).to (eq55)
noncomputable def s55 : Summ Tryz.prog := acts55.summ (by kernel_rfl)
/- chicane/quat.sum -/
noncomputable def c128 : Code := (Tryz.f128.body.getD .skip)
noncomputable def env128 : Env Tryz.prog := ⟨[s40, s77, s94], none⟩
noncomputable def s128 : Summ Tryz.prog := inlSumm allRw mixed 128 Tryz.f128 c128 Tryz.func128 (by kernel_rfl) (by kernel_rfl) env128 200 [] (Loops.fit_nil)
/- chicane/quat.Mul -/
noncomputable def c101 : Code := (Tryz.f101.body.getD .skip)
noncomputable def env101 : Env Tryz.prog := ⟨[s128], none⟩
noncomputable def L101 : Loops Tryz.prog := []
theorem L101_fit : (L101).fit c101 := Loops.fit_nil
noncomputable def law101 (m : MT) (x : (QuatT × QuatT × Unit)) : Option (MT × (QuatT × Unit)) := (Option.bind (fn40 m (x.fst.fst, x.snd.fst.fst, ())) fun v0 => (Option.bind (fn40 v0.fst (x.fst.snd.fst, x.snd.fst.snd.fst, ())) fun v1 => (Option.bind (fn77 v1.fst (v0.snd.fst, v1.snd)) fun v2 => (Option.bind (fn40 v2.fst (x.fst.snd.snd.fst, x.snd.fst.snd.snd.fst, ())) fun v3 => (Option.bind (fn77 v3.fst (v2.snd.fst, v3.snd)) fun v4 => (Option.bind (fn40 v4.fst (x.fst.snd.snd.snd.fst, x.snd.fst.snd.snd.snd)) fun v5 => (Option.bind (fn77 v5.fst (v4.snd.fst, v5.snd)) fun v6 => (Option.bind (fn40 v6.fst (x.fst.fst, x.snd.fst.snd.fst, ())) fun v7 => (Option.bind (fn40 v7.fst (x.fst.snd.fst, x.snd.fst.fst, ())) fun v8 => (Option.bind (fn94 v8.fst (v7.snd.fst, v8.snd)) fun v9 => (Option.bind (fn40 v9.fst (x.fst.snd.snd.fst, x.snd.fst.snd.snd.snd)) fun v10 => (Option.bind (fn94 v10.fst (v9.snd.fst, v10.snd)) fun v11 => (Option.bind (fn40 v11.fst (x.fst.snd.snd.snd.fst, x.snd.fst.snd.snd.fst, ())) fun v12 => (Option.bind (fn77 v12.fst (v11.snd.fst, v12.snd)) fun v13 => (Option.bind (fn40 v13.fst (x.fst.fst, x.snd.fst.snd.snd.fst, ())) fun v14 => (Option.bind (fn40 v14.fst (x.fst.snd.fst, x.snd.fst.snd.snd.snd)) fun v15 => (Option.bind (fn77 v15.fst (v14.snd.fst, v15.snd)) fun v16 => (Option.bind (fn40 v16.fst (x.fst.snd.snd.fst, x.snd.fst.fst, ())) fun v17 => (Option.bind (fn94 v17.fst (v16.snd.fst, v17.snd)) fun v18 => (Option.bind (fn40 v18.fst (x.fst.snd.snd.snd.fst, x.snd.fst.snd.fst, ())) fun v19 => (Option.bind (fn94 v19.fst (v18.snd.fst, v19.snd)) fun v20 => (Option.bind (fn40 v20.fst (x.fst.fst, x.snd.fst.snd.snd.snd)) fun v21 => (Option.bind (fn40 v21.fst (x.fst.snd.fst, x.snd.fst.snd.snd.fst, ())) fun v22 => (Option.bind (fn94 v22.fst (v21.snd.fst, v22.snd)) fun v23 => (Option.bind (fn40 v23.fst (x.fst.snd.snd.fst, x.snd.fst.snd.fst, ())) fun v24 => (Option.bind (fn77 v24.fst (v23.snd.fst, v24.snd)) fun v25 => (Option.bind (fn40 v25.fst (x.fst.snd.snd.snd.fst, x.snd.fst.fst, ())) fun v26 => (Option.bind (fn94 v26.fst (v25.snd.fst, v26.snd)) fun v27 => some (((v27.fst.fst, ()), (v6.snd.fst, v13.snd.fst, v20.snd.fst, v27.snd.fst, ()), ()))))))))))))))))))))))))))))))
theorem eq101 (m : MSh.T) (x : Sh.Ts [QuatSh, QuatSh]) : codeLawM Tryz.prog env101 200 (L101) Tryz.f101 c101 (MSh) [QuatSh, QuatSh] [QuatSh] m x = law101 m x := by kernel_rfl
noncomputable def fn101 (m : MT) (x : (QuatT × QuatT × Unit)) : Option (MT × (QuatT × Unit)) := law101 m x
theorem acts101 : Acts Tryz.prog 101 (MSh) [QuatSh, QuatSh] [QuatSh] fn101 := (Acts.of_code mixed (fn := Tryz.f101) (c := c101) Tryz.func101 (by kernel_rfl) (by kernel_rfl) env101 200 (L101_fit) (by kernel_rfl) (by kernel_rfl)).to (eq101)
noncomputable def s101 : Summ Tryz.prog := acts101.summ (by kernel_rfl)
/- chicane/quat.Step$1 -/
noncomputable def c102 : Code := (Tryz.f102.body.getD .skip)
noncomputable def env102 : Env Tryz.prog := ⟨[s40], none⟩
noncomputable def s102 : Summ Tryz.prog := inlSumm allRw mixed 102 Tryz.f102 c102 Tryz.func102 (by kernel_rfl) (by kernel_rfl) env102 200 [] (Loops.fit_nil)
/- chicane/quat.Unit$1 -/
noncomputable def c129 : Code := (Tryz.f129.body.getD .skip)
noncomputable def env129 : Env Tryz.prog := ⟨[s54], none⟩
noncomputable def s129 : Summ Tryz.prog := inlSumm allRw mixed 129 Tryz.f129 c129 Tryz.func129 (by kernel_rfl) (by kernel_rfl) env129 200 [] (Loops.fit_nil)
/- chicane/quat.each -/
noncomputable def c100 : Code := (Tryz.f100.body.getD .skip)
noncomputable def env100 : Env Tryz.prog := ⟨[s102, s129], none⟩
noncomputable def s100 : Summ Tryz.prog := inlSumm allRw mixed 100 Tryz.f100 c100 Tryz.func100 (by kernel_rfl) (by kernel_rfl) env100 200 [] (Loops.fit_nil)
/- chicane/quat.Unit -/
noncomputable def c103 : Code := (Tryz.f103.body.getD .skip)
noncomputable def env103 : Env Tryz.prog := ⟨[s25, s129, s100], none⟩
noncomputable def L103 : Loops Tryz.prog := []
theorem L103_fit : (L103).fit c103 := Loops.fit_nil
noncomputable def law103 (m : MT) (x : (QuatT × Unit)) : Option (MT × (QuatT × Unit)) := (Option.bind (fn25 m x.fst) fun v0 => (bif v0.snd.fst == 0 then some (((v0.fst.fst, ()), (4294967296, 0, 0, 0, ()), ())) else (Option.bind (fn54 v0.fst (x.fst.fst, v0.snd)) fun v1 => (Option.bind (fn54 v1.fst (x.fst.snd.fst, v0.snd)) fun v2 => (Option.bind (fn54 v2.fst (x.fst.snd.snd.fst, v0.snd)) fun v3 => (Option.bind (fn54 v3.fst (x.fst.snd.snd.snd.fst, v0.snd)) fun v4 => some (((v4.fst.fst, ()), (v1.snd.fst, v2.snd.fst, v3.snd.fst, v4.snd.fst, ()), ()))))))))
theorem eq103 (m : MSh.T) (x : Sh.Ts [QuatSh]) : codeLawM Tryz.prog env103 200 (L103) Tryz.f103 c103 (MSh) [QuatSh] [QuatSh] m x = law103 m x := by kernel_rfl
noncomputable def fn103 (m : MT) (x : (QuatT × Unit)) : Option (MT × (QuatT × Unit)) := law103 m x
theorem acts103 : Acts Tryz.prog 103 (MSh) [QuatSh] [QuatSh] fn103 := (Acts.of_code mixed (fn := Tryz.f103) (c := c103) Tryz.func103 (by kernel_rfl) (by kernel_rfl) env103 200 (L103_fit) (by kernel_rfl) (by kernel_rfl)).to (eq103)
noncomputable def s103 : Summ Tryz.prog := acts103.summ (by kernel_rfl)
/- chicane/quat.Step -/
noncomputable def c57 : Code := (Tryz.f57.body.getD .skip)
noncomputable def env57 : Env Tryz.prog := ⟨[s101, s102, s100, s94, s103], none⟩
noncomputable def L57 : Loops Tryz.prog := []
theorem L57_fit : (L57).fit c57 := Loops.fit_nil
noncomputable def law57 (m : MT) (x : (QuatT × V3T × Int × Unit)) : Option (MT × (QuatT × Unit)) := (Option.bind (fn101 m (x.fst, (0, x.snd.fst), ())) fun v0 => (Option.bind (fn40 v0.fst (v0.snd.fst.fst, x.snd.snd)) fun v1 => (Option.bind (fn40 v1.fst (v1.snd.fst, 2147483648, ())) fun v2 => (Option.bind (fn40 v2.fst (v0.snd.fst.snd.fst, x.snd.snd)) fun v3 => (Option.bind (fn40 v3.fst (v3.snd.fst, 2147483648, ())) fun v4 => (Option.bind (fn40 v4.fst (v0.snd.fst.snd.snd.fst, x.snd.snd)) fun v5 => (Option.bind (fn40 v5.fst (v5.snd.fst, 2147483648, ())) fun v6 => (Option.bind (fn40 v6.fst (v0.snd.fst.snd.snd.snd.fst, x.snd.snd)) fun v7 => (Option.bind (fn40 v7.fst (v7.snd.fst, 2147483648, ())) fun v8 => (Option.bind (fn94 v8.fst (x.fst.fst, v2.snd)) fun v9 => (Option.bind (fn94 v9.fst (x.fst.snd.fst, v4.snd)) fun v10 => (Option.bind (fn94 v10.fst (x.fst.snd.snd.fst, v6.snd)) fun v11 => (Option.bind (fn94 v11.fst (x.fst.snd.snd.snd.fst, v8.snd)) fun v12 => (Option.bind (fn103 v12.fst ((v9.snd.fst, v10.snd.fst, v11.snd.fst, v12.snd), ())) fun v13 => some (((v13.fst.fst, ()), (v13.snd.fst.fst, v13.snd.fst.snd.fst, v13.snd.fst.snd.snd.fst, v13.snd.fst.snd.snd.snd.fst, ()), ()))))))))))))))))
theorem eq57 (m : MSh.T) (x : Sh.Ts [QuatSh, V3Sh, Sh.int IntKind.i64]) : codeLawM Tryz.prog env57 200 (L57) Tryz.f57 c57 (MSh) [QuatSh, V3Sh, .int .i64] [QuatSh] m x = law57 m x := by kernel_rfl
noncomputable def fn57 (m : MT) (x : (QuatT × V3T × Int × Unit)) : Option (MT × (QuatT × Unit)) := law57 m x
theorem acts57 : Acts Tryz.prog 57 (MSh) [QuatSh, V3Sh, .int .i64] [QuatSh] fn57 := (Acts.of_code mixed (fn := Tryz.f57) (c := c57) Tryz.func57 (by kernel_rfl) (by kernel_rfl) env57 200 (L57_fit) (by kernel_rfl) (by kernel_rfl)).to (eq57)
noncomputable def s57 : Summ Tryz.prog := acts57.summ (by kernel_rfl)
/- chicane/chassis.Step -/
noncomputable def ci20 : Code := (Tryz.f20.body.getD .skip)
noncomputable def envi20 : Env Tryz.prog := ⟨[i13, s30, s52, i15, s51, i17, s53, s54, s49, s55, s29, s56, s57], none⟩
noncomputable def i20 : Summ Tryz.prog := inlSumm onlyM mixed 20 Tryz.f20 ci20 Tryz.func20 (by kernel_rfl) (by kernel_rfl) envi20 200 [] (Loops.fit_nil)
/- chicane/chicanelaw28.awake -/
noncomputable def c19 : Code := (Tryz.f19.body.getD .skip)
noncomputable def env19 : Env Tryz.prog := ⟨[s50, i20, i13, s24], none⟩
noncomputable def fn19 (x : (Unit)) : Option ((Bool × Unit)) := some (true, ())
theorem eq19 (x : Sh.Ts []) : codeLaw Tryz.prog env19 200 [] Tryz.f19 c19 [] [.bool] x = fn19 x := by kernel_rfl
theorem reads19 : Reads Tryz.prog 19 [] [.bool] fn19 := (Reads.of_code mixed (fn := Tryz.f19) (c := c19) Tryz.func19 (by kernel_rfl) (by kernel_rfl) env19 200 (Loops.fit_nil) (by kernel_rfl)).to eq19
noncomputable def s19 : Summ Tryz.prog := reads19.summ
end Go.Proofs.YtkgoflpkdcdajaaGreat
