/- What functions of this program tell of their arguments: for each a law, and that the function keeps to it. -/
import Derived.Test.YtkamnpkcjokncaaLawsb
set_option linter.unusedVariables false
set_option linter.unusedSimpArgs false
set_option maxRecDepth 100000
namespace Go.Proofs.Ytkamnpkcjokncaa
open Go Go.Ab Go.Proofs
/- chicane/chicanelaw09.dots -/
noncomputable def c12 : Code := (Try.f12.body.getD .skip)
noncomputable def env12 : Env Try.prog := ⟨[], none⟩
noncomputable def b12o0 : Code := ((kid ((subAt c12 [0, 1, 0, 1, 1]).getD .skip) 0).getD .skip)
noncomputable def kx12o0 : Exit → List Nat | .ret => [4] | _ => []
noncomputable def Li12o0 (N0 : Nat) : Loops Try.prog := []
noncomputable def ls12o0 (N0 : Nat) : LSumm Try.prog := loopSumm mixed env12 200 (Li12o0 N0) b12o0 (Loops.fit_nil) [0, 1, 5] kx12o0 (N0)
noncomputable def ln12o0 {β : Type} (N0 : Nat) (n : Nat) (t : List AV) (h : Heap) (K : Exit → List AV → Heap → Option β) : Option β := loopN Try.prog env12 (Sh.nes [.sl (DotSh), .sl (DotSh)]) 200 (Li12o0 N0) b12o0 [0, 1, 5] kx12o0 n t h K
noncomputable def L12 (N0 : Nat) : Loops Try.prog := [([0, 1, 0, 1, 1], ls12o0 N0)]
theorem L12_fit (N0 : Nat) : (L12 N0).fit c12 := Loops.fit_cons (by kernel_rfl) (Loops.fit_nil)
noncomputable def K12 : Exit → List AV → Heap → Option (Sh.Ts [.bool]) := fun e t h => outK (P := Try.prog) Try.f12 [.bool] e t h
noncomputable def rk12o0 (N0 : Nat) : Exit → List AV → Heap → Option (Sh.Ts [.bool]) := (blkK 0 (seqK Try.prog env12 (Sh.nes [.sl (DotSh), .sl (DotSh)]) 197 (L12 N0) [1, 1, 1] ((subAt c12 [1, 1, 1]).getD .skip) K12))
noncomputable def t12o0 (N0 : Nat) (x : Sh.Ts [DotSh.sl, DotSh.sl]) (i7 : Int) : List AV := [AV.slc 0 0 (List.length x.fst) Cap.low, AV.slc 1 0 (List.length x.snd.fst) Cap.low, AV.any, AV.any, AV.any, AV.val (Value.int IntKind.i64 i7), AV.any, AV.any, AV.any, AV.any, AV.any, AV.any, AV.any, AV.any, AV.any, AV.any, AV.any, AV.any, AV.any, AV.any, AV.any, AV.any, AV.any, AV.any, AV.any, AV.any]
noncomputable def h12o0 (N0 : Nat) (x : Sh.Ts [DotSh.sl, DotSh.sl]) (i7 : Int) : Heap := [Ent.live (Blk.mk (Cells.arr (Sh.st [Sh.int IntKind.i64, Sh.int IntKind.i64]) x.fst) false none), Ent.live (Blk.mk (Cells.arr (Sh.st [Sh.int IntKind.i64, Sh.int IntKind.i64]) x.snd.fst) false none)]
noncomputable def tx12o0o0 (N0 : Nat) (x : Sh.Ts [DotSh.sl, DotSh.sl]) : List AV := [AV.any, AV.any, AV.any, AV.any, AV.val (Value.bool false), AV.any, AV.any, AV.any, AV.any, AV.any, AV.any, AV.any, AV.any, AV.any, AV.any, AV.any, AV.any, AV.any, AV.any, AV.any, AV.any, AV.any, AV.any, AV.any, AV.any, AV.any]
noncomputable def hx12o0o0 (N0 : Nat) (x : Sh.Ts [DotSh.sl, DotSh.sl]) : Heap := [Ent.live (Blk.mk (Cells.arr (Sh.st [Sh.int IntKind.i64, Sh.int IntKind.i64]) x.fst) false none), Ent.live (Blk.mk (Cells.arr (Sh.st [Sh.int IntKind.i64, Sh.int IntKind.i64]) x.snd.fst) false none)]
noncomputable def tx12o0o1 (N0 : Nat) (x : Sh.Ts [DotSh.sl, DotSh.sl]) : List AV := [AV.any, AV.any, AV.any, AV.any, AV.any, AV.any, AV.any, AV.any, AV.any, AV.any, AV.any, AV.any, AV.any, AV.any, AV.any, AV.any, AV.any, AV.any, AV.any, AV.any, AV.any, AV.any, AV.any, AV.any, AV.any, AV.any]
noncomputable def hx12o0o1 (N0 : Nat) (x : Sh.Ts [DotSh.sl, DotSh.sl]) : Heap := [Ent.live (Blk.mk (Cells.arr (Sh.st [Sh.int IntKind.i64, Sh.int IntKind.i64]) x.fst) false none), Ent.live (Blk.mk (Cells.arr (Sh.st [Sh.int IntKind.i64, Sh.int IntKind.i64]) x.snd.fst) false none)]
noncomputable def law12o0 {β : Type} (N0 : Nat) (x : ((List DotT) × (List DotT) × Unit)) (k0 : Option β) (k1 : Option β) : Nat → Int → Option β
  | 0, _ => none
  | n + 1, i7 => (bif decide (i7 < (↑(List.length x.fst) : Int)) then (bif decide (0 ≤ i7) && decide (i7 < (↑(List.length x.fst) : Int)) then (Option.bind x.fst[i7.toNat]? fun v8 => (bif decide (0 ≤ i7) && decide (i7 < (↑(List.length x.snd.fst) : Int)) then (Option.bind x.snd.fst[i7.toNat]? fun v9 => (bif !(v8.fst == v9.fst && (v8.snd.fst == v9.snd.fst && true)) then k0 else law12o0 N0 x k0 k1 n (IntKind.i64.wrap (i7 + 1)))) else none)) else none) else k1)
theorem leq12o0 {β : Type} (N0 : Nat) (x : Sh.Ts [DotSh.sl, DotSh.sl]) (K : Exit → List AV → Heap → Option β) : ∀ (n : Nat) (i7 : Int), ln12o0 N0 n (t12o0 N0 x i7) (h12o0 N0 x i7) K = law12o0 N0 x (K (Exit.ret) (tx12o0o0 N0 x) (hx12o0o0 N0 x)) (K (Exit.exit 0) (tx12o0o1 N0 x) (hx12o0o1 N0 x)) n i7
  | 0, _ => rfl
  | n + 1, i7 => by
    have h : ln12o0 N0 (n + 1) (t12o0 N0 x i7) (h12o0 N0 x i7) K = (bif decide (i7 < (↑(List.length x.fst) : Int)) then (bif decide (0 ≤ i7) && decide (i7 < (↑(List.length x.fst) : Int)) then (Option.bind x.fst[i7.toNat]? fun v8 => (bif decide (0 ≤ i7) && decide (i7 < (↑(List.length x.snd.fst) : Int)) then (Option.bind x.snd.fst[i7.toNat]? fun v9 => (bif !(v8.fst == v9.fst && (v8.snd.fst == v9.snd.fst && true)) then K (Exit.ret) (tx12o0o0 N0 x) (hx12o0o0 N0 x) else ln12o0 N0 n (t12o0 N0 x (IntKind.i64.wrap (i7 + 1))) (h12o0 N0 x (IntKind.i64.wrap (i7 + 1))) K)) else none)) else none) else K (Exit.exit 0) (tx12o0o1 N0 x) (hx12o0o1 N0 x)) := by kernel_rfl
    rw [h]
    simp only [decide_self, decide_true, Nat.zero_add, Bool.and_true, Bool.true_and, cond_true, law12o0, leq12o0 N0 x K n]
theorem rest12o0o0 (N0 : Nat) (x : Sh.Ts [DotSh.sl, DotSh.sl]) : rk12o0 N0 (Exit.ret) (tx12o0o0 N0 x) (hx12o0o0 N0 x) = some ((false, ())) := by kernel_rfl
theorem rest12o0o1 (N0 : Nat) (x : Sh.Ts [DotSh.sl, DotSh.sl]) : rk12o0 N0 (Exit.exit 0) (tx12o0o1 N0 x) (hx12o0o1 N0 x) = some ((true, ())) := by kernel_rfl
noncomputable def law12 (N0 : Nat) (x : ((List DotT) × (List DotT) × Unit)) : Option ((Bool × Unit)) := (bif (↑(List.length x.fst) : Int) != (↑(List.length x.snd.fst) : Int) then some ((false, ())) else (law12o0 N0 x (some ((false, ()))) (some ((true, ()))) N0 0))
theorem eq12 (N0 : Nat) (x : Sh.Ts [DotSh.sl, DotSh.sl]) : codeLaw Try.prog env12 200 (L12 N0) Try.f12 c12 [.sl (DotSh), .sl (DotSh)] [.bool] x = law12 N0 x := by
  have h : codeLaw Try.prog env12 200 (L12 N0) Try.f12 c12 [.sl (DotSh), .sl (DotSh)] [.bool] x = (bif (↑(List.length x.fst) : Int) != (↑(List.length x.snd.fst) : Int) then some ((false, ())) else (ln12o0 N0 N0 (t12o0 N0 x 0) (h12o0 N0 x 0) (rk12o0 N0))) := by kernel_rfl
  rw [h]
  unfold law12
  simp only [decide_self, decide_true, Nat.zero_add, Bool.and_true, Bool.true_and, cond_true, leq12o0, rest12o0o0, rest12o0o1]
noncomputable def fn12 (x : ((List DotT) × (List DotT) × Unit)) : Option ((Bool × Unit)) := law12 (10 ^ 30) x
theorem reads12 : Reads Try.prog 12 [.sl (DotSh), .sl (DotSh)] [.bool] fn12 := (Reads.of_code mixed (fn := Try.f12) (c := c12) Try.func12 (by kernel_rfl) (by kernel_rfl) env12 200 (L12_fit _) (by kernel_rfl)).to (eq12 _)
noncomputable def s12 : Summ Try.prog := reads12.summ
/- chicane/chicanelaw09.sample -/
noncomputable def c29 : Code := (Try.f29.body.getD .skip)
noncomputable def env29 : Env Try.prog := ⟨[], none⟩
noncomputable def s29 : Summ Try.prog := inlSumm allRw mixed 29 Try.f29 c29 Try.func29 (by kernel_rfl) (by kernel_rfl) env29 200 [] (Loops.fit_nil)
/- slices.IndexFunc[[]chicane/api.Fx,chicane/api.Fx] -/
noncomputable def ci34 : Code := (Try.f34.body.getD .skip)
noncomputable def envi34 : Env Try.prog := ⟨[s23], none⟩
noncomputable def i34 : Summ Try.prog := inlSumm onlyM mixed 34 Try.f34 ci34 Try.func34 (by kernel_rfl) (by kernel_rfl) envi34 200 [] (Loops.fit_nil)
/- slices.ContainsFunc[[]chicane/api.Fx,chicane/api.Fx] -/
noncomputable def ci22 : Code := (Try.f22.body.getD .skip)
noncomputable def envi22 : Env Try.prog := ⟨[i34], none⟩
noncomputable def i22 : Summ Try.prog := inlSumm onlyM mixed 22 Try.f22 ci22 Try.func22 (by kernel_rfl) (by kernel_rfl) envi22 200 [] (Loops.fit_nil)
/- chicane/pane.Right$1 -/
noncomputable def ci21 : Code := (Try.f21.body.getD .skip)
noncomputable def envi21 : Env Try.prog := ⟨[i22, s23], none⟩
noncomputable def i21 : Summ Try.prog := inlSumm onlyM mixed 21 Try.f21 ci21 Try.func21 (by kernel_rfl) (by kernel_rfl) envi21 200 [] (Loops.fit_nil)
/- slices.IndexFunc[[][]chicane/api.Fx,[]chicane/api.Fx] -/
noncomputable def ci37 : Code := (Try.f37.body.getD .skip)
noncomputable def envi37 : Env Try.prog := ⟨[i21, s36], none⟩
noncomputable def i37 : Summ Try.prog := inlSumm onlyM mixed 37 Try.f37 ci37 Try.func37 (by kernel_rfl) (by kernel_rfl) envi37 200 [] (Loops.fit_nil)
/- slices.ContainsFunc[[][]chicane/api.Fx,[]chicane/api.Fx] -/
noncomputable def ci25 : Code := (Try.f25.body.getD .skip)
noncomputable def envi25 : Env Try.prog := ⟨[i37], none⟩
noncomputable def i25 : Summ Try.prog := inlSumm onlyM mixed 25 Try.f25 ci25 Try.func25 (by kernel_rfl) (by kernel_rfl) envi25 200 [] (Loops.fit_nil)
/- chicane/pane.counted -/
noncomputable def ci24 : Code := (Try.f24.body.getD .skip)
noncomputable def envi24 : Env Try.prog := ⟨[s35, s36, i25], none⟩
noncomputable def i24 : Summ Try.prog := inlSumm onlyM mixed 24 Try.f24 ci24 Try.func24 (by kernel_rfl) (by kernel_rfl) envi24 200 [] (Loops.fit_nil)
/- slices.IsSortedFunc[[]chicane/api.Fx,chicane/api.Fx] -/
noncomputable def ci38 : Code := (Try.f38.body.getD .skip)
noncomputable def envi38 : Env Try.prog := ⟨[s39], none⟩
noncomputable def i38 : Summ Try.prog := inlSumm onlyM mixed 38 Try.f38 ci38 Try.func38 (by kernel_rfl) (by kernel_rfl) envi38 200 [] (Loops.fit_nil)
/- chicane/pane.rises -/
noncomputable def ci26 : Code := (Try.f26.body.getD .skip)
noncomputable def envi26 : Env Try.prog := ⟨[i38, s39], none⟩
noncomputable def i26 : Summ Try.prog := inlSumm onlyM mixed 26 Try.f26 ci26 Try.func26 (by kernel_rfl) (by kernel_rfl) envi26 200 [] (Loops.fit_nil)
/- chicane/pane.Right -/
noncomputable def ci10 : Code := (Try.f10.body.getD .skip)
noncomputable def envi10 : Env Try.prog := ⟨[i21, i24, i25, i26], none⟩
noncomputable def i10 : Summ Try.prog := inlSumm onlyM mixed 10 Try.f10 ci10 Try.func10 (by kernel_rfl) (by kernel_rfl) envi10 200 [] (Loops.fit_nil)
/- slices.Concat[[]chicane/api.Fx,chicane/api.Fx] -/
noncomputable def ci18 : Code := (Try.f18.body.getD .skip)
noncomputable def envi18 : Env Try.prog := ⟨[s33], none⟩
noncomputable def i18 : Summ Try.prog := inlSumm onlyM mixed 18 Try.f18 ci18 Try.func18 (by kernel_rfl) (by kernel_rfl) envi18 200 [] (Loops.fit_nil)
/- slices.Min[[]chicane/api.Fx,chicane/api.Fx] -/
noncomputable def ci19 : Code := (Try.f19.body.getD .skip)
noncomputable def envi19 : Env Try.prog := ⟨[], none⟩
noncomputable def i19 : Summ Try.prog := inlSumm onlyM mixed 19 Try.f19 ci19 Try.func19 (by kernel_rfl) (by kernel_rfl) envi19 200 [] (Loops.fit_nil)
/- slices.Max[[]chicane/api.Fx,chicane/api.Fx] -/
noncomputable def ci20 : Code := (Try.f20.body.getD .skip)
noncomputable def envi20 : Env Try.prog := ⟨[], none⟩
noncomputable def i20 : Summ Try.prog := inlSumm onlyM mixed 20 Try.f20 ci20 Try.func20 (by kernel_rfl) (by kernel_rfl) envi20 200 [] (Loops.fit_nil)
/- chicane/pane.Bounds -/
noncomputable def ci8 : Code := (Try.f8.body.getD .skip)
noncomputable def envi8 : Env Try.prog := ⟨[i10, i18, i19, i20], none⟩
noncomputable def i8 : Summ Try.prog := inlSumm onlyM mixed 8 Try.f8 ci8 Try.func8 (by kernel_rfl) (by kernel_rfl) envi8 200 [] (Loops.fit_nil)
/- chicane/pane.around -/
noncomputable def ci30 : Code := (Try.f30.body.getD .skip)
noncomputable def envi30 : Env Try.prog := ⟨[s41], none⟩
noncomputable def i30 : Summ Try.prog := inlSumm onlyM mixed 30 Try.f30 ci30 Try.func30 (by kernel_rfl) (by kernel_rfl) envi30 200 [] (Loops.fit_nil)
/- chicane/pane.Row -/
noncomputable def ci13 : Code := (Try.f13.body.getD .skip)
noncomputable def envi13 : Env Try.prog := ⟨[], none⟩
noncomputable def i13 : Summ Try.prog := inlSumm onlyM mixed 13 Try.f13 ci13 Try.func13 (by kernel_rfl) (by kernel_rfl) envi13 200 [] (Loops.fit_nil)
/- chicane/pane.Eval -/
noncomputable def ci16 : Code := (Try.f16.body.getD .skip)
noncomputable def envi16 : Env Try.prog := ⟨[i10, i30, i13, s31], none⟩
noncomputable def rci16o0 : Code := ((subAt ci16 [0, 1, 0, 1, 1, 1]).getD .skip)
noncomputable def rii16o0 : Code := (Try.f42.body.getD .skip)
noncomputable def rsi16o0 : LSumm Try.prog := rangeSumm mixed envi16 (fun _ => True.intro) 200 [] (rgG rci16o0) (rgP rci16o0) (rgA rci16o0) (rgB rci16o0) Loops.fit_nil [] 200 (fun _ => []) 42 Try.f42 rii16o0 Try.func42 (by kernel_rfl) (by kernel_rfl) (by kernel_rfl) (fun _ => Loops.fit_nil)
noncomputable def i16 : Summ Try.prog := inlSumm onlyM mixed 16 Try.f16 ci16 Try.func16 (by kernel_rfl) (by kernel_rfl) envi16 200 [([0, 1, 0, 1, 1, 1], rsi16o0)] (Loops.fit_cons (by kernel_rfl) (Loops.fit_nil))
/- chicane/chicanelaw09.awake -/
noncomputable def c15 : Code := (Try.f15.body.getD .skip)
noncomputable def env15 : Env Try.prog := ⟨[s29, i8, i16, i10], none⟩
noncomputable def fn15 (x : (Unit)) : Option ((Bool × Unit)) := some (true, ())
theorem eq15 (x : Sh.Ts []) : codeLaw Try.prog env15 200 [] Try.f15 c15 [] [.bool] x = fn15 x := by kernel_rfl
theorem reads15 : Reads Try.prog 15 [] [.bool] fn15 := (Reads.of_code mixed (fn := Try.f15) (c := c15) Try.func15 (by kernel_rfl) (by kernel_rfl) env15 200 (Loops.fit_nil) (by kernel_rfl)).to eq15
noncomputable def s15 : Summ Try.prog := reads15.summ
/- chicane/chicanelaw09.PaneRight -/
noncomputable def c3 : Code := (Try.f3.body.getD .skip)
noncomputable def env3 : Env Try.prog := ⟨[s7, s8, s9, s10, s11, s13, s14, s12, s15], none⟩
noncomputable def L3 : Loops Try.prog := []
theorem L3_fit : (L3).fit c3 := Loops.fit_nil
noncomputable def law3 (x : (PaneT × Int × Unit)) : Option ((Bool × Unit)) := (Option.bind (fn7 (x.fst, ())) fun v0 => (bif !v0.fst then some ((true, ())) else (Option.bind (fn8 (x.fst, ())) fun v1 => (Option.bind (fn9 (x.fst, ())) fun v2 => (Option.bind (fn10 (x.fst, ())) fun v3 => (Option.bind (fn11 (x.fst, ())) fun v4 => (bif v3.fst == v4.fst then (bif v1.fst == v2.fst then (bif v1.snd.fst == v2.snd.fst then (Option.bind (fn13 x) fun v5 => (Option.bind (fn14 x) fun v6 => (Option.bind (fn12 (v5, v6, ())) fun v7 => (bif v7.fst then some ((true, ())) else some ((false, ())))))) else some ((false, ()))) else some ((false, ()))) else some ((false, ())))))))))
theorem eq3 (x : Sh.Ts [PaneSh, Sh.int IntKind.i64]) : codeLaw Try.prog env3 200 (L3) Try.f3 c3 [PaneSh, .int .i64] [.bool] x = law3 x := by
  have h : codeLaw Try.prog env3 200 (L3) Try.f3 c3 [PaneSh, .int .i64] [.bool] x = (bif decide (List.length x.fst.fst = List.length x.fst.fst) && (decide (List.length x.fst.snd.fst = List.length x.fst.snd.fst) && (decide (List.length x.fst.snd.snd.fst = List.length x.fst.snd.snd.fst) && true)) && true then (Option.bind (fn7 (x.fst, ())) fun v0 => (bif !v0.fst then some ((true, ())) else (bif decide (List.length x.fst.fst = List.length x.fst.fst) && (decide (List.length x.fst.snd.fst = List.length x.fst.snd.fst) && (decide (List.length x.fst.snd.snd.fst = List.length x.fst.snd.snd.fst) && true)) && true then (Option.bind (fn8 (x.fst, ())) fun v1 => (bif decide (List.length x.fst.fst = List.length x.fst.fst) && (decide (List.length x.fst.snd.fst = List.length x.fst.snd.fst) && (decide (List.length x.fst.snd.snd.fst = List.length x.fst.snd.snd.fst) && true)) && true then (Option.bind (fn9 (x.fst, ())) fun v2 => (bif decide (List.length x.fst.fst = List.length x.fst.fst) && (decide (List.length x.fst.snd.fst = List.length x.fst.snd.fst) && (decide (List.length x.fst.snd.snd.fst = List.length x.fst.snd.snd.fst) && true)) && true then (Option.bind (fn10 (x.fst, ())) fun v3 => (bif decide (List.length x.fst.fst = List.length x.fst.fst) && (decide (List.length x.fst.snd.fst = List.length x.fst.snd.fst) && (decide (List.length x.fst.snd.snd.fst = List.length x.fst.snd.snd.fst) && true)) && true then (Option.bind (fn11 (x.fst, ())) fun v4 => (bif v3.fst == v4.fst then (bif v1.fst == v2.fst then (bif v1.snd.fst == v2.snd.fst then (bif decide (List.length x.fst.fst = List.length x.fst.fst) && (decide (List.length x.fst.snd.fst = List.length x.fst.snd.fst) && (decide (List.length x.fst.snd.snd.fst = List.length x.fst.snd.snd.fst) && true)) && true then (Option.bind (fn13 x) fun v5 => (bif decide (List.length x.fst.fst = List.length x.fst.fst) && (decide (List.length x.fst.snd.fst = List.length x.fst.snd.fst) && (decide (List.length x.fst.snd.snd.fst = List.length x.fst.snd.snd.fst) && true)) && true then (Option.bind (fn14 x) fun v6 => (bif decide (v5.length = v5.length) && (decide (v6.length = v6.length) && true) then (Option.bind (fn12 (v5, v6, ())) fun v7 => (bif v7.fst then some ((true, ())) else some ((false, ())))) else none)) else none)) else none) else some ((false, ()))) else some ((false, ()))) else some ((false, ())))) else none)) else none)) else none)) else none))) else none) := by kernel_rfl
  rw [h]
  unfold law3
  simp only [decide_self, decide_true, Nat.zero_add, Bool.and_true, Bool.true_and, cond_true]
noncomputable def fn3 (x : (PaneT × Int × Unit)) : Option ((Bool × Unit)) := law3 x
theorem reads3 : Reads Try.prog 3 [PaneSh, .int .i64] [.bool] fn3 := (Reads.of_code mixed (fn := Try.f3) (c := c3) Try.func3 (by kernel_rfl) (by kernel_rfl) env3 200 (L3_fit) (by kernel_rfl)).to (eq3)
noncomputable def s3 : Summ Try.prog := reads3.summ
/- chicane/chicanelaw09.PaneEval -/
noncomputable def c4 : Code := (Try.f4.body.getD .skip)
noncomputable def env4 : Env Try.prog := ⟨[s7, s16, s17, s15], none⟩
noncomputable def L4 : Loops Try.prog := []
theorem L4_fit : (L4).fit c4 := Loops.fit_nil
noncomputable def law4 (x : (PaneT × Int × Int × Unit)) : Option ((Bool × Unit)) := (Option.bind (fn7 (x.fst, ())) fun v0 => (bif !v0.fst then some ((true, ())) else (Option.bind (fn16 (false, ()) x) fun v1 => (Option.bind (fn17 (false, ()) x) fun v2 => (bif v1.snd.fst == v2.snd.fst then (bif v1.fst.fst == v2.fst.fst then some ((true, ())) else some ((false, ()))) else some ((false, ())))))))
theorem eq4 (x : Sh.Ts [PaneSh, Sh.int IntKind.i64, Sh.int IntKind.i64]) : codeLaw Try.prog env4 200 (L4) Try.f4 c4 [PaneSh, .int .i64, .int .i64] [.bool] x = law4 x := by
  have h : codeLaw Try.prog env4 200 (L4) Try.f4 c4 [PaneSh, .int .i64, .int .i64] [.bool] x = (bif decide (List.length x.fst.fst = List.length x.fst.fst) && (decide (List.length x.fst.snd.fst = List.length x.fst.snd.fst) && (decide (List.length x.fst.snd.snd.fst = List.length x.fst.snd.snd.fst) && true)) && true then (Option.bind (fn7 (x.fst, ())) fun v0 => (bif !v0.fst then some ((true, ())) else (bif decide (List.length x.fst.fst = List.length x.fst.fst) && (decide (List.length x.fst.snd.fst = List.length x.fst.snd.fst) && (decide (List.length x.fst.snd.snd.fst = List.length x.fst.snd.snd.fst) && true)) && true then (Option.bind (fn16 (false, ()) x) fun v1 => (bif decide (List.length x.fst.fst = List.length x.fst.fst) && (decide (List.length x.fst.snd.fst = List.length x.fst.snd.fst) && (decide (List.length x.fst.snd.snd.fst = List.length x.fst.snd.snd.fst) && true)) && true then (Option.bind (fn17 (false, ()) x) fun v2 => (bif v1.snd.fst == v2.snd.fst then (bif v1.fst.fst == v2.fst.fst then some ((true, ())) else some ((false, ()))) else some ((false, ())))) else none)) else none))) else none) := by kernel_rfl
  rw [h]
  unfold law4
  simp only [decide_self, decide_true, Nat.zero_add, Bool.and_true, Bool.true_and, cond_true]
noncomputable def fn4 (x : (PaneT × Int × Int × Unit)) : Option ((Bool × Unit)) := law4 x
theorem reads4 : Reads Try.prog 4 [PaneSh, .int .i64, .int .i64] [.bool] fn4 := (Reads.of_code mixed (fn := Try.f4) (c := c4) Try.func4 (by kernel_rfl) (by kernel_rfl) env4 200 (L4_fit) (by kernel_rfl)).to (eq4)
noncomputable def s4 : Summ Try.prog := reads4.summ
/- chicane/chicanelaw09.PaneBetween -/
noncomputable def c5 : Code := (Try.f5.body.getD .skip)
noncomputable def env5 : Env Try.prog := ⟨[s7, s10, s15, s16, s8], none⟩
noncomputable def L5 : Loops Try.prog := []
theorem L5_fit : (L5).fit c5 := Loops.fit_nil
noncomputable def law5 (x : (PaneT × Int × Int × Unit)) : Option ((Bool × Unit)) := (Option.bind (fn7 (x.fst, ())) fun v0 => (bif !v0.fst then some ((true, ())) else (Option.bind (fn10 (x.fst, ())) fun v1 => (bif v1.fst != 0 then some ((true, ())) else (Option.bind (fn16 (false, ()) x) fun v2 => (Option.bind (fn8 (x.fst, ())) fun v3 => (bif !v2.fst.fst then (bif decide (v2.snd.fst ≥ v3.fst) then (bif decide (v2.snd.fst ≤ v3.snd.fst) then some ((true, ())) else some ((false, ()))) else some ((false, ()))) else some ((false, ())))))))))
theorem eq5 (x : Sh.Ts [PaneSh, Sh.int IntKind.i64, Sh.int IntKind.i64]) : codeLaw Try.prog env5 200 (L5) Try.f5 c5 [PaneSh, .int .i64, .int .i64] [.bool] x = law5 x := by
  have h : codeLaw Try.prog env5 200 (L5) Try.f5 c5 [PaneSh, .int .i64, .int .i64] [.bool] x = (bif decide (List.length x.fst.fst = List.length x.fst.fst) && (decide (List.length x.fst.snd.fst = List.length x.fst.snd.fst) && (decide (List.length x.fst.snd.snd.fst = List.length x.fst.snd.snd.fst) && true)) && true then (Option.bind (fn7 (x.fst, ())) fun v0 => (bif !v0.fst then some ((true, ())) else (bif decide (List.length x.fst.fst = List.length x.fst.fst) && (decide (List.length x.fst.snd.fst = List.length x.fst.snd.fst) && (decide (List.length x.fst.snd.snd.fst = List.length x.fst.snd.snd.fst) && true)) && true then (Option.bind (fn10 (x.fst, ())) fun v1 => (bif v1.fst != 0 then some ((true, ())) else (bif decide (List.length x.fst.fst = List.length x.fst.fst) && (decide (List.length x.fst.snd.fst = List.length x.fst.snd.fst) && (decide (List.length x.fst.snd.snd.fst = List.length x.fst.snd.snd.fst) && true)) && true then (Option.bind (fn16 (false, ()) x) fun v2 => (bif decide (List.length x.fst.fst = List.length x.fst.fst) && (decide (List.length x.fst.snd.fst = List.length x.fst.snd.fst) && (decide (List.length x.fst.snd.snd.fst = List.length x.fst.snd.snd.fst) && true)) && true then (Option.bind (fn8 (x.fst, ())) fun v3 => (bif !v2.fst.fst then (bif decide (v2.snd.fst ≥ v3.fst) then (bif decide (v2.snd.fst ≤ v3.snd.fst) then some ((true, ())) else some ((false, ()))) else some ((false, ()))) else some ((false, ())))) else none)) else none))) else none))) else none) := by kernel_rfl
  rw [h]
  unfold law5
  simp only [decide_self, decide_true, Nat.zero_add, Bool.and_true, Bool.true_and, cond_true]
noncomputable def fn5 (x : (PaneT × Int × Int × Unit)) : Option ((Bool × Unit)) := law5 x
theorem reads5 : Reads Try.prog 5 [PaneSh, .int .i64, .int .i64] [.bool] fn5 := (Reads.of_code mixed (fn := Try.f5) (c := c5) Try.func5 (by kernel_rfl) (by kernel_rfl) env5 200 (L5_fit) (by kernel_rfl)).to (eq5)
noncomputable def s5 : Summ Try.prog := reads5.summ
/- chicane/chicanelaw09.PanePoints -/
noncomputable def c6 : Code := (Try.f6.body.getD .skip)
noncomputable def env6 : Env Try.prog := ⟨[s7, s10, s15, s16], none⟩
noncomputable def b6o1 : Code := ((kid ((subAt c6 [0, 1, 0, 0, 1, 0, 0, 1, 0, 1, 1, 1]).getD .skip) 0).getD .skip)
noncomputable def kx6o1 : Exit → List Nat | .ret => [2] | .exit 1 => [1, 3, 4] | .exit 2 => [1, 3, 4] | _ => []
noncomputable def b6o0 : Code := ((kid ((subAt c6 [0, 1, 0, 1, 1, 1]).getD .skip) 0).getD .skip)
noncomputable def kx6o0 : Exit → List Nat | .ret => [2] | _ => []
noncomputable def Li6o1 (N0 N1 : Nat) : Loops Try.prog := []
noncomputable def ls6o1 (N0 N1 : Nat) : LSumm Try.prog := loopSumm mixed env6 200 (Li6o1 N0 N1) b6o1 (Loops.fit_nil) [1, 3, 4, 5] kx6o1 (N1)
noncomputable def ln6o1 {β : Type} (N0 N1 : Nat) (n : Nat) (t : List AV) (h : Heap) (K : Exit → List AV → Heap → Option β) : Option β := loopN Try.prog env6 (Sh.nes [PaneSh]) 200 (Li6o1 N0 N1) b6o1 [1, 3, 4, 5] kx6o1 n t h K
noncomputable def Li6o0 (N0 N1 : Nat) : Loops Try.prog := [([0, 1, 0, 0, 1], ls6o1 N0 N1)]
noncomputable def ls6o0 (N0 N1 : Nat) : LSumm Try.prog := loopSumm mixed env6 200 (Li6o0 N0 N1) b6o0 (Loops.fit_cons (by kernel_rfl) (Loops.fit_nil)) [1, 3, 4] kx6o0 (N0)
noncomputable def ln6o0 {β : Type} (N0 N1 : Nat) (n : Nat) (t : List AV) (h : Heap) (K : Exit → List AV → Heap → Option β) : Option β := loopN Try.prog env6 (Sh.nes [PaneSh]) 200 (Li6o0 N0 N1) b6o0 [1, 3, 4] kx6o0 n t h K
noncomputable def L6 (N0 N1 : Nat) : Loops Try.prog := [([0, 1, 0, 1, 1, 1], ls6o0 N0 N1)]
theorem L6_fit (N0 N1 : Nat) : (L6 N0 N1).fit c6 := Loops.fit_cons (by kernel_rfl) (Loops.fit_nil)
noncomputable def K6 : Exit → List AV → Heap → Option (Sh.Ts [.bool]) := fun e t h => outK (P := Try.prog) Try.f6 [.bool] e t h
noncomputable def rk6o0 (N0 N1 : Nat) : Exit → List AV → Heap → Option (Sh.Ts [.bool]) := (blkK 0 (seqK Try.prog env6 (Sh.nes [PaneSh]) 196 (L6 N0 N1) [1, 1, 1, 1] ((subAt c6 [1, 1, 1, 1]).getD .skip) K6))
noncomputable def rk6o1 {β : Type} (N0 N1 : Nat) (n : Nat) (K : Exit → List AV → Heap → Option β) : Exit → List AV → Heap → Option β := (blkK 2 (blkK 1 (seqK Try.prog env6 (Sh.nes [PaneSh]) 198 (Li6o0 N0 N1) [1, 1] ((subAt b6o0 [1, 1]).getD .skip) (roundEnd (Sh.nes [PaneSh]) [1, 3, 4] kx6o0 (fun t2 h2 => ln6o0 N0 N1 n t2 h2 K) K))))
noncomputable def t6o1 (N0 : Nat) (N1 : Nat) (x : Sh.Ts [PaneSh]) (i35 : Int) (i52 : Int) (i53 : Bool) : List AV := [AV.any, AV.ptr 3 0, AV.any, AV.ptr 4 0, AV.val (Value.int IntKind.i64 i35), AV.val (Value.int IntKind.i64 i52), AV.any, AV.any, AV.any, AV.any, AV.any, AV.any, AV.any, AV.any, AV.any, AV.any, AV.any, AV.any, AV.any, AV.any, AV.any, AV.any, AV.any, AV.any, AV.any, AV.any, AV.any, AV.any, AV.any, AV.any, AV.any, AV.any, AV.any, AV.any, AV.any, AV.any, AV.any, AV.any, AV.any, AV.any, AV.any, AV.any, AV.any, AV.any, AV.any, AV.any, AV.any, AV.any, AV.any, AV.any, AV.any, AV.any, AV.any, AV.any, AV.any, AV.any, AV.any, AV.any, AV.any, AV.any, AV.any, AV.any, AV.any, AV.any, AV.any, AV.any, AV.any, AV.any, AV.any, AV.any, AV.any]
noncomputable def h6o1 (N0 : Nat) (N1 : Nat) (x : Sh.Ts [PaneSh]) (i35 : Int) (i52 : Int) (i53 : Bool) : Heap := [Ent.live (Blk.mk (Cells.arr (Sh.int IntKind.i64) x.fst.fst) false none), Ent.live (Blk.mk (Cells.arr (Sh.int IntKind.i64) x.fst.snd.fst) false none), Ent.live (Blk.mk (Cells.arrs (Sh.int IntKind.i64) x.fst.snd.snd.fst) false none), Ent.live (Blk.mk (Cells.lit [AV.slc 0 0 (List.length x.fst.fst) Cap.low, AV.slc 1 0 (List.length x.fst.snd.fst) Cap.low, AV.slc 2 0 (List.length x.fst.snd.snd.fst) Cap.low]) true none), Ent.live (Blk.mk (Cells.lit [AV.val (Value.bool i53)]) true none)]
noncomputable def tx6o1o0 (N0 : Nat) (N1 : Nat) (x : Sh.Ts [PaneSh]) (i35 : Int) : List AV := [AV.any, AV.any, AV.val (Value.bool false), AV.any, AV.any, AV.any, AV.any, AV.any, AV.any, AV.any, AV.any, AV.any, AV.any, AV.any, AV.any, AV.any, AV.any, AV.any, AV.any, AV.any, AV.any, AV.any, AV.any, AV.any, AV.any, AV.any, AV.any, AV.any, AV.any, AV.any, AV.any, AV.any, AV.any, AV.any, AV.any, AV.any, AV.any, AV.any, AV.any, AV.any, AV.any, AV.any, AV.any, AV.any, AV.any, AV.any, AV.any, AV.any, AV.any, AV.any, AV.any, AV.any, AV.any, AV.any, AV.any, AV.any, AV.any, AV.any, AV.any, AV.any, AV.any, AV.any, AV.any, AV.any, AV.any, AV.any, AV.any, AV.any, AV.any, AV.any, AV.any]
noncomputable def hx6o1o0 (N0 : Nat) (N1 : Nat) (x : Sh.Ts [PaneSh]) (i35 : Int) : Heap := [Ent.live (Blk.mk (Cells.arr (Sh.int IntKind.i64) x.fst.fst) false none), Ent.live (Blk.mk (Cells.arr (Sh.int IntKind.i64) x.fst.snd.fst) false none), Ent.live (Blk.mk (Cells.arrs (Sh.int IntKind.i64) x.fst.snd.snd.fst) false none)]
noncomputable def tx6o1o1 (N0 : Nat) (N1 : Nat) (x : Sh.Ts [PaneSh]) (i35 : Int) (w60 : Bool) : List AV := [AV.any, AV.ptr 3 0, AV.any, AV.ptr 4 0, AV.val (Value.int IntKind.i64 i35), AV.any, AV.any, AV.any, AV.any, AV.any, AV.any, AV.any, AV.any, AV.any, AV.any, AV.any, AV.any, AV.any, AV.any, AV.any, AV.any, AV.any, AV.any, AV.any, AV.any, AV.any, AV.any, AV.any, AV.any, AV.any, AV.any, AV.any, AV.any, AV.any, AV.any, AV.any, AV.any, AV.any, AV.any, AV.any, AV.any, AV.any, AV.any, AV.any, AV.any, AV.any, AV.any, AV.any, AV.any, AV.any, AV.any, AV.any, AV.any, AV.any, AV.any, AV.any, AV.any, AV.any, AV.any, AV.any, AV.any, AV.any, AV.any, AV.any, AV.any, AV.any, AV.any, AV.any, AV.any, AV.any, AV.any]
noncomputable def hx6o1o1 (N0 : Nat) (N1 : Nat) (x : Sh.Ts [PaneSh]) (i35 : Int) (w60 : Bool) : Heap := [Ent.live (Blk.mk (Cells.arr (Sh.int IntKind.i64) x.fst.fst) false none), Ent.live (Blk.mk (Cells.arr (Sh.int IntKind.i64) x.fst.snd.fst) false none), Ent.live (Blk.mk (Cells.arrs (Sh.int IntKind.i64) x.fst.snd.snd.fst) false none), Ent.live (Blk.mk (Cells.lit [AV.slc 0 0 (List.length x.fst.fst) Cap.low, AV.slc 1 0 (List.length x.fst.snd.fst) Cap.low, AV.slc 2 0 (List.length x.fst.snd.snd.fst) Cap.low]) true none), Ent.live (Blk.mk (Cells.lit [AV.val (Value.bool w60)]) true none)]
noncomputable def law6o1 {β : Type} (N0 : Nat) (N1 : Nat) (x : (PaneT × Unit)) (i35 : Int) (k0 : Option β) (k1 : Bool → Option β) : Nat → Int → Bool → Option β
  | 0, _, _ => none
  | n + 1, i52, i53 => (bif decide (i52 < (↑(List.length x.fst.fst) : Int)) then (bif decide (0 ≤ i35) && decide (i35 < (↑(List.length x.fst.snd.snd.fst) : Int)) then (Option.bind x.fst.snd.snd.fst[i35.toNat]? fun v54 => (bif decide (i52 < (↑v54.length : Int)) then (bif decide (0 ≤ i52) && decide (i52 < (↑(List.length x.fst.fst) : Int)) then (Option.bind x.fst.fst[i52.toNat]? fun v55 => (bif decide (0 ≤ i35) && decide (i35 < (↑(List.length x.fst.snd.fst) : Int)) then (Option.bind x.fst.snd.fst[i35.toNat]? fun v56 => (Option.bind (fn16 (i53, ()) (x.fst, v55, v56, ())) fun v57 => (bif decide (0 ≤ i35) && decide (i35 < (↑(List.length x.fst.snd.snd.fst) : Int)) then (Option.bind x.fst.snd.snd.fst[i35.toNat]? fun v58 => (bif decide (0 ≤ i52) && decide (i52 < (↑v58.length : Int)) then (Option.bind v58[i52.toNat]? fun v59 => (bif v57.snd.fst != v59 then k0 else law6o1 N0 N1 x i35 k0 k1 n (IntKind.i64.wrap (i52 + 1)) v57.fst.fst)) else none)) else none))) else none)) else none) else k1 i53)) else none) else k1 i53)
theorem leq6o1 {β : Type} (N0 : Nat) (N1 : Nat) (x : Sh.Ts [PaneSh]) (i35 : Int) (K : Exit → List AV → Heap → Option β) : ∀ (n : Nat) (i52 : Int) (i53 : Bool), ln6o1 N0 N1 n (t6o1 N0 N1 x i35 i52 i53) (h6o1 N0 N1 x i35 i52 i53) K = law6o1 N0 N1 x i35 (K (Exit.ret) (tx6o1o0 N0 N1 x i35) (hx6o1o0 N0 N1 x i35)) (fun w60 => K (Exit.exit 2) (tx6o1o1 N0 N1 x i35 w60) (hx6o1o1 N0 N1 x i35 w60)) n i52 i53
  | 0, _, _ => rfl
  | n + 1, i52, i53 => by
    have h : ln6o1 N0 N1 (n + 1) (t6o1 N0 N1 x i35 i52 i53) (h6o1 N0 N1 x i35 i52 i53) K = (bif decide (i52 < (↑(List.length x.fst.fst) : Int)) then (bif decide (0 ≤ i35) && decide (i35 < (↑(List.length x.fst.snd.snd.fst) : Int)) then (Option.bind (x.fst.snd.snd.fst[0 + i35.toNat]?) fun v54 => (bif decide (i52 < (↑v54.length : Int)) then (bif decide (0 ≤ i52) && decide (i52 < (↑(List.length x.fst.fst) : Int)) then (Option.bind (x.fst.fst[0 + i52.toNat]?) fun v55 => (bif decide (0 ≤ i35) && decide (i35 < (↑(List.length x.fst.snd.fst) : Int)) then (Option.bind (x.fst.snd.fst[0 + i35.toNat]?) fun v56 => (bif decide (List.length x.fst.fst = List.length x.fst.fst) && (decide (List.length x.fst.snd.fst = List.length x.fst.snd.fst) && (decide (List.length x.fst.snd.snd.fst = List.length x.fst.snd.snd.fst) && true)) && true then (Option.bind (fn16 (i53, ()) (x.fst, v55, v56, ())) fun v57 => (bif decide (0 ≤ i35) && decide (i35 < (↑(List.length x.fst.snd.snd.fst) : Int)) then (Option.bind (x.fst.snd.snd.fst[0 + i35.toNat]?) fun v58 => (bif decide (0 ≤ i52) && decide (i52 < (↑v58.length : Int)) then (Option.bind (v58[0 + i52.toNat]?) fun v59 => (bif v57.snd.fst != v59 then K (Exit.ret) (tx6o1o0 N0 N1 x i35) (hx6o1o0 N0 N1 x i35) else ln6o1 N0 N1 n (t6o1 N0 N1 x i35 (IntKind.i64.wrap (i52 + 1)) v57.fst.fst) (h6o1 N0 N1 x i35 (IntKind.i64.wrap (i52 + 1)) v57.fst.fst) K)) else none)) else none)) else none)) else none)) else none) else K (Exit.exit 2) (tx6o1o1 N0 N1 x i35 i53) (hx6o1o1 N0 N1 x i35 i53))) else none) else K (Exit.exit 2) (tx6o1o1 N0 N1 x i35 i53) (hx6o1o1 N0 N1 x i35 i53)) := by kernel_rfl
    rw [h]
    simp only [decide_self, decide_true, Nat.zero_add, Bool.and_true, Bool.true_and, cond_true, law6o1, leq6o1 N0 N1 x i35 K n]
noncomputable def t6o0o1 (N0 : Nat) (N1 : Nat) (x : Sh.Ts [PaneSh]) (i35 : Int) (i36 : Bool) : List AV := [AV.any, AV.ptr 3 0, AV.any, AV.ptr 4 0, AV.val (Value.int IntKind.i64 i35), AV.any, AV.any, AV.any, AV.any, AV.any, AV.any, AV.any, AV.any, AV.any, AV.any, AV.any, AV.any, AV.any, AV.any, AV.any, AV.any, AV.any, AV.any, AV.any, AV.any, AV.any, AV.any, AV.any, AV.any, AV.any, AV.any, AV.any, AV.any, AV.any, AV.any, AV.any, AV.any, AV.any, AV.any, AV.any, AV.any, AV.any, AV.any, AV.any, AV.any, AV.any, AV.any, AV.any, AV.any, AV.any, AV.any, AV.any, AV.any, AV.any, AV.any, AV.any, AV.any, AV.any, AV.any, AV.any, AV.any, AV.any, AV.any, AV.any, AV.any, AV.any, AV.any, AV.any, AV.any, AV.any, AV.any]
noncomputable def h6o0o1 (N0 : Nat) (N1 : Nat) (x : Sh.Ts [PaneSh]) (i35 : Int) (i36 : Bool) : Heap := [Ent.live (Blk.mk (Cells.arr (Sh.int IntKind.i64) x.fst.fst) false none), Ent.live (Blk.mk (Cells.arr (Sh.int IntKind.i64) x.fst.snd.fst) false none), Ent.live (Blk.mk (Cells.arrs (Sh.int IntKind.i64) x.fst.snd.snd.fst) false none), Ent.live (Blk.mk (Cells.lit [AV.slc 0 0 (List.length x.fst.fst) Cap.low, AV.slc 1 0 (List.length x.fst.snd.fst) Cap.low, AV.slc 2 0 (List.length x.fst.snd.snd.fst) Cap.low]) true none), Ent.live (Blk.mk (Cells.lit [AV.val (Value.bool i36)]) true none)]
noncomputable def tx6o0o1o0 (N0 : Nat) (N1 : Nat) (x : Sh.Ts [PaneSh]) : List AV := [AV.any, AV.any, AV.val (Value.bool false), AV.any, AV.any, AV.any, AV.any, AV.any, AV.any, AV.any, AV.any, AV.any, AV.any, AV.any, AV.any, AV.any, AV.any, AV.any, AV.any, AV.any, AV.any, AV.any, AV.any, AV.any, AV.any, AV.any, AV.any, AV.any, AV.any, AV.any, AV.any, AV.any, AV.any, AV.any, AV.any, AV.any, AV.any, AV.any, AV.any, AV.any, AV.any, AV.any, AV.any, AV.any, AV.any, AV.any, AV.any, AV.any, AV.any, AV.any, AV.any, AV.any, AV.any, AV.any, AV.any, AV.any, AV.any, AV.any, AV.any, AV.any, AV.any, AV.any, AV.any, AV.any, AV.any, AV.any, AV.any, AV.any, AV.any, AV.any, AV.any]
noncomputable def hx6o0o1o0 (N0 : Nat) (N1 : Nat) (x : Sh.Ts [PaneSh]) : Heap := [Ent.live (Blk.mk (Cells.arr (Sh.int IntKind.i64) x.fst.fst) false none), Ent.live (Blk.mk (Cells.arr (Sh.int IntKind.i64) x.fst.snd.fst) false none), Ent.live (Blk.mk (Cells.arrs (Sh.int IntKind.i64) x.fst.snd.snd.fst) false none)]
noncomputable def tx6o0o1o1 (N0 : Nat) (N1 : Nat) (x : Sh.Ts [PaneSh]) : List AV := [AV.any, AV.any, AV.any, AV.any, AV.any, AV.any, AV.any, AV.any, AV.any, AV.any, AV.any, AV.any, AV.any, AV.any, AV.any, AV.any, AV.any, AV.any, AV.any, AV.any, AV.any, AV.any, AV.any, AV.any, AV.any, AV.any, AV.any, AV.any, AV.any, AV.any, AV.any, AV.any, AV.any, AV.any, AV.any, AV.any, AV.any, AV.any, AV.any, AV.any, AV.any, AV.any, AV.any, AV.any, AV.any, AV.any, AV.any, AV.any, AV.any, AV.any, AV.any, AV.any, AV.any, AV.any, AV.any, AV.any, AV.any, AV.any, AV.any, AV.any, AV.any, AV.any, AV.any, AV.any, AV.any, AV.any, AV.any, AV.any, AV.any, AV.any, AV.any]
noncomputable def hx6o0o1o1 (N0 : Nat) (N1 : Nat) (x : Sh.Ts [PaneSh]) : Heap := [Ent.live (Blk.mk (Cells.arr (Sh.int IntKind.i64) x.fst.fst) false none), Ent.live (Blk.mk (Cells.arr (Sh.int IntKind.i64) x.fst.snd.fst) false none), Ent.live (Blk.mk (Cells.arrs (Sh.int IntKind.i64) x.fst.snd.snd.fst) false none)]
noncomputable def law6o0o1 {β : Type} (N0 : Nat) (N1 : Nat) (x : (PaneT × Unit)) (k0 : Option β) (k1 : Option β) : Nat → Int → Bool → Option β
  | 0, _, _ => none
  | n + 1, i35, i36 => (bif decide (i35 < (↑(List.length x.fst.snd.fst) : Int)) then (bif decide (i35 < (↑(List.length x.fst.snd.snd.fst) : Int)) then (law6o1 N0 N1 x i35 (k0) (fun w61 => law6o0o1 N0 N1 x k0 k1 n (IntKind.i64.wrap (i35 + 1)) w61) N1 0 i36) else k1) else k1)
theorem rest6o1o0 {β : Type} (n : Nat) (K : Exit → List AV → Heap → Option β) (N0 : Nat) (N1 : Nat) (x : Sh.Ts [PaneSh]) (i35 : Int) : rk6o1 N0 N1 n K (Exit.ret) (tx6o1o0 N0 N1 x i35) (hx6o1o0 N0 N1 x i35) = K (Exit.ret) (tx6o0o1o0 N0 N1 x) (hx6o0o1o0 N0 N1 x) := by kernel_rfl
theorem rest6o1o1 {β : Type} (n : Nat) (K : Exit → List AV → Heap → Option β) (N0 : Nat) (N1 : Nat) (x : Sh.Ts [PaneSh]) (i35 : Int) (w61 : Bool) : rk6o1 N0 N1 n K (Exit.exit 2) (tx6o1o1 N0 N1 x i35 w61) (hx6o1o1 N0 N1 x i35 w61) = ln6o0 N0 N1 n (t6o0o1 N0 N1 x (IntKind.i64.wrap (i35 + 1)) w61) (h6o0o1 N0 N1 x (IntKind.i64.wrap (i35 + 1)) w61) K := by kernel_rfl
theorem leq6o0o1 {β : Type} (N0 : Nat) (N1 : Nat) (x : Sh.Ts [PaneSh]) (K : Exit → List AV → Heap → Option β) : ∀ (n : Nat) (i35 : Int) (i36 : Bool), ln6o0 N0 N1 n (t6o0o1 N0 N1 x i35 i36) (h6o0o1 N0 N1 x i35 i36) K = law6o0o1 N0 N1 x (K (Exit.ret) (tx6o0o1o0 N0 N1 x) (hx6o0o1o0 N0 N1 x)) (K (Exit.exit 0) (tx6o0o1o1 N0 N1 x) (hx6o0o1o1 N0 N1 x)) n i35 i36
  | 0, _, _ => rfl
  | n + 1, i35, i36 => by
    have h : ln6o0 N0 N1 (n + 1) (t6o0o1 N0 N1 x i35 i36) (h6o0o1 N0 N1 x i35 i36) K = (bif decide (i35 < (↑(List.length x.fst.snd.fst) : Int)) then (bif decide (i35 < (↑(List.length x.fst.snd.snd.fst) : Int)) then (ln6o1 N0 N1 N1 (t6o1 N0 N1 x i35 0 i36) (h6o1 N0 N1 x i35 0 i36) (rk6o1 N0 N1 n K)) else K (Exit.exit 0) (tx6o0o1o1 N0 N1 x) (hx6o0o1o1 N0 N1 x)) else K (Exit.exit 0) (tx6o0o1o1 N0 N1 x) (hx6o0o1o1 N0 N1 x)) := by kernel_rfl
    rw [h]
    simp only [decide_self, decide_true, Nat.zero_add, Bool.and_true, Bool.true_and, cond_true, law6o0o1, leq6o0o1 N0 N1 x K n, leq6o1, rest6o1o0, rest6o1o1]
theorem rest6o0o1o0 (N0 : Nat) (N1 : Nat) (x : Sh.Ts [PaneSh]) : rk6o0 N0 N1 (Exit.ret) (tx6o0o1o0 N0 N1 x) (hx6o0o1o0 N0 N1 x) = some ((false, ())) := by kernel_rfl
theorem rest6o0o1o1 (N0 : Nat) (N1 : Nat) (x : Sh.Ts [PaneSh]) : rk6o0 N0 N1 (Exit.exit 0) (tx6o0o1o1 N0 N1 x) (hx6o0o1o1 N0 N1 x) = some ((true, ())) := by kernel_rfl
noncomputable def law6 (N0 : Nat) (N1 : Nat) (x : (PaneT × Unit)) : Option ((Bool × Unit)) := (Option.bind (fn7 x) fun v0 => (bif !v0.fst then some ((true, ())) else (Option.bind (fn10 x) fun v1 => (bif v1.fst != 0 then some ((true, ())) else (law6o0o1 N0 N1 x (some ((false, ()))) (some ((true, ()))) N0 0 false)))))
theorem eq6 (N0 : Nat) (N1 : Nat) (x : Sh.Ts [PaneSh]) : codeLaw Try.prog env6 200 (L6 N0 N1) Try.f6 c6 [PaneSh] [.bool] x = law6 N0 N1 x := by
  have h : codeLaw Try.prog env6 200 (L6 N0 N1) Try.f6 c6 [PaneSh] [.bool] x = (bif decide (List.length x.fst.fst = List.length x.fst.fst) && (decide (List.length x.fst.snd.fst = List.length x.fst.snd.fst) && (decide (List.length x.fst.snd.snd.fst = List.length x.fst.snd.snd.fst) && true)) && true then (Option.bind (fn7 x) fun v0 => (bif !v0.fst then some ((true, ())) else (bif decide (List.length x.fst.fst = List.length x.fst.fst) && (decide (List.length x.fst.snd.fst = List.length x.fst.snd.fst) && (decide (List.length x.fst.snd.snd.fst = List.length x.fst.snd.snd.fst) && true)) && true then (Option.bind (fn10 x) fun v1 => (bif v1.fst != 0 then some ((true, ())) else (ln6o0 N0 N1 N0 (t6o0o1 N0 N1 x 0 false) (h6o0o1 N0 N1 x 0 false) (rk6o0 N0 N1)))) else none))) else none) := by kernel_rfl
  rw [h]
  unfold law6
  simp only [decide_self, decide_true, Nat.zero_add, Bool.and_true, Bool.true_and, cond_true, leq6o1, rest6o1o0, rest6o1o1, leq6o0o1, rest6o0o1o0, rest6o0o1o1]
noncomputable def fn6 (x : (PaneT × Unit)) : Option ((Bool × Unit)) := law6 (10 ^ 30) (10 ^ 30) x
theorem reads6 : Reads Try.prog 6 [PaneSh] [.bool] fn6 := (Reads.of_code mixed (fn := Try.f6) (c := c6) Try.func6 (by kernel_rfl) (by kernel_rfl) env6 200 (L6_fit _ _) (by kernel_rfl)).to (eq6 _ _)
noncomputable def s6 : Summ Try.prog := reads6.summ
end Go.Proofs.Ytkamnpkcjokncaa
