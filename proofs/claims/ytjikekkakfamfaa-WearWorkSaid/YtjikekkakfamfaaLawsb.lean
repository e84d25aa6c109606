/- What functions of this program tell of their arguments: for each a law, and that the function keeps to it. -/
import Derived.Test.YtjikekkakfamfaaLawsa
set_option linter.unusedVariables false
set_option linter.unusedSimpArgs false
set_option maxRecDepth 100000
namespace Go.Proofs.Ytjikekkakfamfaa
open Go Go.Ab Go.Proofs
/- chicane/chicaneref08.Right -/
noncomputable def c31 : Code := (Try.f31.body.getD .skip)
noncomputable def env31 : Env Try.prog := [s48]
noncomputable def b31o0 : Code := ((kid ((subAt c31 [0, 1, 0, 1, 1]).getD .skip) 0).getD .skip)
noncomputable def kx31o0 : Exit → List Nat | .ret => [2] | _ => []
noncomputable def Li31o0 (N0 : Nat) : Loops Try.prog := []
noncomputable def ls31o0 (N0 : Nat) : LSumm Try.prog := loopSumm mixed env31 200 (Li31o0 N0) b31o0 (Loops.fit_nil) [0, 3] kx31o0 (N0)
noncomputable def ln31o0 {β : Type} (N0 : Nat) (n : Nat) (t : List AV) (h : Heap) (K : Exit → List AV → Heap → Option β) : Option β := loopN Try.prog env31 (Sh.nes [.sl (DotSh)]) 200 (Li31o0 N0) b31o0 [0, 3] kx31o0 n t h K
noncomputable def L31 (N0 : Nat) : Loops Try.prog := [([0, 1, 0, 1, 1], ls31o0 N0)]
theorem L31_fit (N0 : Nat) : (L31 N0).fit c31 := Loops.fit_cons (by kernel_rfl) (Loops.fit_nil)
noncomputable def K31 : Exit → List AV → Heap → Option (Sh.Ts [.int .i64]) := fun e t h => outK (P := Try.prog) Try.f31 [.int .i64] e t h
noncomputable def rk31o0 (N0 : Nat) : Exit → List AV → Heap → Option (Sh.Ts [.int .i64]) := (blkK 0 (seqK Try.prog env31 (Sh.nes [.sl (DotSh)]) 197 (L31 N0) [1, 1, 1] ((subAt c31 [1, 1, 1]).getD .skip) K31))
noncomputable def t31o0 (N0 : Nat) (x : Sh.Ts [DotSh.sl]) (i9 : Int) : List AV := [AV.slc 0 0 (List.length x.fst) Cap.low, AV.any, AV.any, AV.val (Value.int IntKind.i64 i9), AV.any, AV.any, AV.any, AV.any, AV.any, AV.any, AV.any, AV.any, AV.any, AV.any, AV.any, AV.any, AV.any, AV.any, AV.any, AV.any, AV.any, AV.any, AV.any, AV.any, AV.any, AV.any, AV.any, AV.any, AV.any, AV.any, AV.any, AV.any, AV.any, AV.any, AV.any, AV.any, AV.any, AV.any, AV.any, AV.any, AV.any, AV.any, AV.any, AV.any, AV.any, AV.any, AV.any, AV.any, AV.any, AV.any]
noncomputable def h31o0 (N0 : Nat) (x : Sh.Ts [DotSh.sl]) (i9 : Int) : Heap := [Ent.live (Blk.mk (Cells.arr (Sh.st [Sh.int IntKind.i64, Sh.int IntKind.i64]) x.fst) false none)]
noncomputable def tx31o0o0 (N0 : Nat) (x : Sh.Ts [DotSh.sl]) (w16 : Int) : List AV := [AV.any, AV.any, AV.val (Value.int IntKind.i64 w16), AV.any, AV.any, AV.any, AV.any, AV.any, AV.any, AV.any, AV.any, AV.any, AV.any, AV.any, AV.any, AV.any, AV.any, AV.any, AV.any, AV.any, AV.any, AV.any, AV.any, AV.any, AV.any, AV.any, AV.any, AV.any, AV.any, AV.any, AV.any, AV.any, AV.any, AV.any, AV.any, AV.any, AV.any, AV.any, AV.any, AV.any, AV.any, AV.any, AV.any, AV.any, AV.any, AV.any, AV.any, AV.any, AV.any, AV.any]
noncomputable def hx31o0o0 (N0 : Nat) (x : Sh.Ts [DotSh.sl]) (w16 : Int) : Heap := [Ent.live (Blk.mk (Cells.arr (Sh.st [Sh.int IntKind.i64, Sh.int IntKind.i64]) x.fst) false none)]
noncomputable def tx31o0o1 (N0 : Nat) (x : Sh.Ts [DotSh.sl]) : List AV := [AV.any, AV.any, AV.any, AV.any, AV.any, AV.any, AV.any, AV.any, AV.any, AV.any, AV.any, AV.any, AV.any, AV.any, AV.any, AV.any, AV.any, AV.any, AV.any, AV.any, AV.any, AV.any, AV.any, AV.any, AV.any, AV.any, AV.any, AV.any, AV.any, AV.any, AV.any, AV.any, AV.any, AV.any, AV.any, AV.any, AV.any, AV.any, AV.any, AV.any, AV.any, AV.any, AV.any, AV.any, AV.any, AV.any, AV.any, AV.any, AV.any, AV.any]
noncomputable def hx31o0o1 (N0 : Nat) (x : Sh.Ts [DotSh.sl]) : Heap := [Ent.live (Blk.mk (Cells.arr (Sh.st [Sh.int IntKind.i64, Sh.int IntKind.i64]) x.fst) false none)]
noncomputable def law31o0 {β : Type} (N0 : Nat) (x : ((List DotT) × Unit)) (k0 : Int → Option β) (k1 : Option β) : Nat → Int → Option β
  | 0, _ => none
  | n + 1, i9 => (bif decide (i9 < (↑(List.length x.fst) : Int)) then (bif decide (0 ≤ i9) && decide (i9 < (↑(List.length x.fst) : Int)) then (Option.bind x.fst[i9.toNat]? fun v10 => (Option.bind (fn48 (v10.fst, 4503599627370496, ())) fun v11 => (bif !v11.fst then k0 40 else (bif decide (0 ≤ i9) && decide (i9 < (↑(List.length x.fst) : Int)) then (Option.bind x.fst[i9.toNat]? fun v12 => (Option.bind (fn48 (v12.snd.fst, 4503599627370496, ())) fun v13 => (bif !v13.fst then k0 40 else (bif decide (i9 > 0) then (bif decide (0 ≤ i9) && decide (i9 < (↑(List.length x.fst) : Int)) then (Option.bind x.fst[i9.toNat]? fun v14 => (bif decide (0 ≤ IntKind.i64.wrap (i9 - 1)) && decide (IntKind.i64.wrap (i9 - 1) < (↑(List.length x.fst) : Int)) then (Option.bind (x.fst[(IntKind.i64.wrap (i9 - 1)).toNat]?) fun v15 => (bif decide (v14.fst ≤ v15.fst) then k0 41 else law31o0 N0 x k0 k1 n (IntKind.i64.wrap (i9 + 1)))) else none)) else none) else law31o0 N0 x k0 k1 n (IntKind.i64.wrap (i9 + 1)))))) else none)))) else none) else k1)
theorem leq31o0 {β : Type} (N0 : Nat) (x : Sh.Ts [DotSh.sl]) (K : Exit → List AV → Heap → Option β) : ∀ (n : Nat) (i9 : Int), ln31o0 N0 n (t31o0 N0 x i9) (h31o0 N0 x i9) K = law31o0 N0 x (fun w16 => K (Exit.ret) (tx31o0o0 N0 x w16) (hx31o0o0 N0 x w16)) (K (Exit.exit 0) (tx31o0o1 N0 x) (hx31o0o1 N0 x)) n i9
  | 0, _ => rfl
  | n + 1, i9 => by
    have h : ln31o0 N0 (n + 1) (t31o0 N0 x i9) (h31o0 N0 x i9) K = (bif decide (i9 < (↑(List.length x.fst) : Int)) then (bif decide (0 ≤ i9) && decide (i9 < (↑(List.length x.fst) : Int)) then (Option.bind x.fst[i9.toNat]? fun v10 => (Option.bind (fn48 (v10.fst, 4503599627370496, ())) fun v11 => (bif !v11.fst then K (Exit.ret) (tx31o0o0 N0 x 40) (hx31o0o0 N0 x 40) else (bif decide (0 ≤ i9) && decide (i9 < (↑(List.length x.fst) : Int)) then (Option.bind x.fst[i9.toNat]? fun v12 => (Option.bind (fn48 (v12.snd.fst, 4503599627370496, ())) fun v13 => (bif !v13.fst then K (Exit.ret) (tx31o0o0 N0 x 40) (hx31o0o0 N0 x 40) else (bif decide (i9 > 0) then (bif decide (0 ≤ i9) && decide (i9 < (↑(List.length x.fst) : Int)) then (Option.bind x.fst[i9.toNat]? fun v14 => (bif decide (0 ≤ IntKind.i64.wrap (i9 - 1)) && decide (IntKind.i64.wrap (i9 - 1) < (↑(List.length x.fst) : Int)) then (Option.bind (x.fst[(IntKind.i64.wrap (i9 - 1)).toNat]?) fun v15 => (bif decide (v14.fst ≤ v15.fst) then K (Exit.ret) (tx31o0o0 N0 x 41) (hx31o0o0 N0 x 41) else ln31o0 N0 n (t31o0 N0 x (IntKind.i64.wrap (i9 + 1))) (h31o0 N0 x (IntKind.i64.wrap (i9 + 1))) K)) else none)) else none) else ln31o0 N0 n (t31o0 N0 x (IntKind.i64.wrap (i9 + 1))) (h31o0 N0 x (IntKind.i64.wrap (i9 + 1))) K)))) else none)))) else none) else K (Exit.exit 0) (tx31o0o1 N0 x) (hx31o0o1 N0 x)) := by kernel_rfl
    rw [h]
    simp only [decide_self, decide_true, Nat.zero_add, Bool.and_true, Bool.true_and, cond_true, law31o0, leq31o0 N0 x K n]
theorem rest31o0o0 (N0 : Nat) (x : Sh.Ts [DotSh.sl]) (w17 : Int) : rk31o0 N0 (Exit.ret) (tx31o0o0 N0 x w17) (hx31o0o0 N0 x w17) = some ((w17, ())) := by kernel_rfl
theorem rest31o0o1 (N0 : Nat) (x : Sh.Ts [DotSh.sl]) : rk31o0 N0 (Exit.exit 0) (tx31o0o1 N0 x) (hx31o0o1 N0 x) = some ((0, ())) := by kernel_rfl
noncomputable def law31 (N0 : Nat) (x : ((List DotT) × Unit)) : Option ((Int × Unit)) := (bif decide ((↑(List.length x.fst) : Int) < 2) then some ((42, ())) else (bif decide ((↑(List.length x.fst) : Int) > 32) then some ((42, ())) else (law31o0 N0 x (fun w17 => some ((w17, ()))) (some ((0, ()))) N0 0)))
theorem eq31 (N0 : Nat) (x : Sh.Ts [DotSh.sl]) : codeLaw Try.prog env31 200 (L31 N0) Try.f31 c31 [.sl (DotSh)] [.int .i64] x = law31 N0 x := by
  have h : codeLaw Try.prog env31 200 (L31 N0) Try.f31 c31 [.sl (DotSh)] [.int .i64] x = (bif decide ((↑(List.length x.fst) : Int) < 2) then some ((42, ())) else (bif decide ((↑(List.length x.fst) : Int) > 32) then some ((42, ())) else (ln31o0 N0 N0 (t31o0 N0 x 0) (h31o0 N0 x 0) (rk31o0 N0)))) := by kernel_rfl
  rw [h]
  unfold law31
  simp only [decide_self, decide_true, Nat.zero_add, Bool.and_true, Bool.true_and, cond_true, leq31o0, rest31o0o0, rest31o0o1]
noncomputable def fn31 (x : ((List DotT) × Unit)) : Option ((Int × Unit)) := law31 (10 ^ 30) x
theorem reads31 : Reads Try.prog 31 [.sl (DotSh)] [.int .i64] fn31 := (Reads.of_code mixed (fn := Try.f31) (c := c31) Try.func31 (by kernel_rfl) (by kernel_rfl) env31 200 (L31_fit _) (by kernel_rfl)).to (eq31 _)
noncomputable def s31 : Summ Try.prog := reads31.summ
/- chicane/fx.Clamp -/
noncomputable def c23 : Code := (Try.f23.body.getD .skip)
noncomputable def env23 : Env Try.prog := []
noncomputable def L23 : Loops Try.prog := []
theorem L23_fit : (L23).fit c23 := Loops.fit_nil
noncomputable def law23 (x : (Int × Int × Int × Unit)) : Option ((Int × Unit)) := (bif decide (x.fst < x.snd.fst) then some ((x.snd.fst, ())) else (bif decide (x.fst > x.snd.snd.fst) then some ((x.snd.snd.fst, ())) else some ((x.fst, ()))))
theorem eq23 (x : Sh.Ts [Sh.int IntKind.i64, Sh.int IntKind.i64, Sh.int IntKind.i64]) : codeLaw Try.prog env23 200 (L23) Try.f23 c23 [.int .i64, .int .i64, .int .i64] [.int .i64] x = law23 x := by kernel_rfl
noncomputable def fn23 (x : (Int × Int × Int × Unit)) : Option ((Int × Unit)) := law23 x
theorem reads23 : Reads Try.prog 23 [.int .i64, .int .i64, .int .i64] [.int .i64] fn23 := (Reads.of_code mixed (fn := Try.f23) (c := c23) Try.func23 (by kernel_rfl) (by kernel_rfl) env23 200 (L23_fit) (by kernel_rfl)).to (eq23)
noncomputable def s23 : Summ Try.prog := reads23.summ
/- chicane/chicaneref02.Clamp -/
noncomputable def c27 : Code := (Try.f27.body.getD .skip)
noncomputable def env27 : Env Try.prog := []
noncomputable def L27 : Loops Try.prog := []
theorem L27_fit : (L27).fit c27 := Loops.fit_nil
noncomputable def law27 (x : (Int × Int × Int × Unit)) : Option ((Int × Unit)) := (bif decide (x.fst < x.snd.fst) then some ((x.snd.fst, ())) else (bif decide (x.fst > x.snd.snd.fst) then some ((x.snd.snd.fst, ())) else some ((x.fst, ()))))
theorem eq27 (x : Sh.Ts [Sh.int IntKind.i64, Sh.int IntKind.i64, Sh.int IntKind.i64]) : codeLaw Try.prog env27 200 (L27) Try.f27 c27 [.int .i64, .int .i64, .int .i64] [.int .i64] x = law27 x := by kernel_rfl
noncomputable def fn27 (x : (Int × Int × Int × Unit)) : Option ((Int × Unit)) := law27 x
theorem reads27 : Reads Try.prog 27 [.int .i64, .int .i64, .int .i64] [.int .i64] fn27 := (Reads.of_code mixed (fn := Try.f27) (c := c27) Try.func27 (by kernel_rfl) (by kernel_rfl) env27 200 (L27_fit) (by kernel_rfl)).to (eq27)
noncomputable def s27 : Summ Try.prog := reads27.summ
/- chicane/chicanelaw46.few -/
noncomputable def c7 : Code := (Try.f7.body.getD .skip)
noncomputable def env7 : Env Try.prog := []
noncomputable def L7 : Loops Try.prog := []
theorem L7_fit : (L7).fit c7 := Loops.fit_nil
noncomputable def law7 (x : (MakeT × Unit)) : Option ((Bool × Unit)) := (bif decide ((↑(List.length x.fst.snd.snd.snd.snd.fst) : Int) ≤ 40) then some ((decide ((↑(List.length x.fst.snd.snd.snd.snd.snd.fst) : Int) ≤ 40), ())) else some ((false, ())))
theorem eq7 (x : Sh.Ts [MakeSh]) : codeLaw Try.prog env7 200 (L7) Try.f7 c7 [MakeSh] [.bool] x = law7 x := by kernel_rfl
noncomputable def fn7 (x : (MakeT × Unit)) : Option ((Bool × Unit)) := law7 x
theorem reads7 : Reads Try.prog 7 [MakeSh] [.bool] fn7 := (Reads.of_code mixed (fn := Try.f7) (c := c7) Try.func7 (by kernel_rfl) (by kernel_rfl) env7 200 (L7_fit) (by kernel_rfl)).to (eq7)
noncomputable def s7 : Summ Try.prog := reads7.summ
/- chicane/wear.product -/
noncomputable def c21 : Code := (Try.f21.body.getD .skip)
noncomputable def env21 : Env Try.prog := [s43]
noncomputable def b21o0 : Code := ((kid ((subAt c21 [0, 1, 0, 1]).getD .skip) 0).getD .skip)
noncomputable def kx21o0 : Exit → List Nat | .ret => [6] | .exit 0 => [1] | _ => []
noncomputable def Li21o0 (N0 : Nat) : Loops Try.prog := []
noncomputable def ls21o0 (N0 : Nat) : LSumm Try.prog := loopSumm mixed env21 200 (Li21o0 N0) b21o0 (Loops.fit_nil) [0, 1, 9, 10, 11] kx21o0 (N0)
noncomputable def ln21o0 {β : Type} (N0 : Nat) (n : Nat) (t : List AV) (h : Heap) (K : Exit → List AV → Heap → Option β) : Option β := loopN Try.prog env21 (Sh.nes [.int .i64, .sl (.int .i64)] + 1) 200 (Li21o0 N0) b21o0 [0, 1, 9, 10, 11] kx21o0 n t h K
noncomputable def L21 (N0 : Nat) : Loops Try.prog := [([0, 1, 0, 1], ls21o0 N0)]
theorem L21_fit (N0 : Nat) : (L21 N0).fit c21 := Loops.fit_cons (by kernel_rfl) (Loops.fit_nil)
noncomputable def K21 : Exit → List AV → Heap → Option (Sh.T (MSh) × Sh.Ts [.int .i64]) := fun e t h => outM (P := Try.prog) Try.f21 (MSh) (Sh.nes [.int .i64, .sl (.int .i64)]) [.int .i64] e t h
noncomputable def rk21o0 (N0 : Nat) : Exit → List AV → Heap → Option (Sh.T (MSh) × Sh.Ts [.int .i64]) := (blkK 0 (seqK Try.prog env21 (Sh.nes [.int .i64, .sl (.int .i64)] + 1) 198 (L21 N0) [1, 1] ((subAt c21 [1, 1]).getD .skip) K21))
noncomputable def t21o0 (N0 : Nat) (x : Sh.Ts [Sh.int IntKind.i64, (Sh.int IntKind.i64).sl]) (i8 : (Sh.int IntKind.i64).T) (i9 : Int) (i10 : Sh.bool.T) : List AV := [AV.ptr 1 0, AV.val (Value.int IntKind.i64 i8), AV.any, AV.any, AV.any, AV.any, AV.any, AV.any, AV.any, AV.slc 0 0 (List.length x.snd.fst) Cap.low, AV.val (Value.int IntKind.i64 (↑(List.length x.snd.fst) : Int)), AV.val (Value.int IntKind.i64 i9), AV.any, AV.any, AV.any, AV.any, AV.any, AV.any, AV.any, AV.any, AV.any]
noncomputable def h21o0 (N0 : Nat) (x : Sh.Ts [Sh.int IntKind.i64, (Sh.int IntKind.i64).sl]) (i8 : (Sh.int IntKind.i64).T) (i9 : Int) (i10 : Sh.bool.T) : Heap := [Ent.live (Blk.mk (Cells.arr (Sh.int IntKind.i64) x.snd.fst) false none), Ent.live (Blk.mk (Cells.lit [AV.val (Value.bool i10)]) true none)]
noncomputable def tx21o0o0 (N0 : Nat) (x : Sh.Ts [Sh.int IntKind.i64, (Sh.int IntKind.i64).sl]) (w13 : (Sh.int IntKind.i64).T) (w14 : Sh.bool.T) : List AV := [AV.any, AV.val (Value.int IntKind.i64 w13), AV.any, AV.any, AV.any, AV.any, AV.any, AV.any, AV.any, AV.any, AV.any, AV.any, AV.any, AV.any, AV.any, AV.any, AV.any, AV.any, AV.any, AV.any, AV.any]
noncomputable def hx21o0o0 (N0 : Nat) (x : Sh.Ts [Sh.int IntKind.i64, (Sh.int IntKind.i64).sl]) (w13 : (Sh.int IntKind.i64).T) (w14 : Sh.bool.T) : Heap := [Ent.live (Blk.mk (Cells.arr (Sh.int IntKind.i64) x.snd.fst) false none), Ent.live (Blk.mk (Cells.lit [AV.val (Value.bool w14)]) true none)]
noncomputable def law21o0 {β : Type} (N0 : Nat) (x : (Int × (List Int) × Unit)) (k0 : Int → Bool → Option β) : Nat → Int → Int → Bool → Option β
  | 0, _, _, _ => none
  | n + 1, i8, i9, i10 => (bif decide (i9 < (↑(List.length x.snd.fst) : Int)) then (bif decide (0 ≤ i9) && decide (i9 < (↑(List.length x.snd.fst) : Int)) then (Option.bind x.snd.fst[i9.toNat]? fun v11 => (Option.bind (fn43 (i10, ()) (i8, v11, ())) fun v12 => law21o0 N0 x k0 n v12.snd.fst (IntKind.i64.wrap (i9 + 1)) v12.fst.fst)) else none) else k0 i8 i10)
theorem leq21o0 {β : Type} (N0 : Nat) (x : Sh.Ts [Sh.int IntKind.i64, (Sh.int IntKind.i64).sl]) (K : Exit → List AV → Heap → Option β) : ∀ (n : Nat) (i8 : (Sh.int IntKind.i64).T) (i9 : Int) (i10 : Sh.bool.T), ln21o0 N0 n (t21o0 N0 x i8 i9 i10) (h21o0 N0 x i8 i9 i10) K = law21o0 N0 x (fun w13 w14 => K (Exit.exit 0) (tx21o0o0 N0 x w13 w14) (hx21o0o0 N0 x w13 w14)) n i8 i9 i10
  | 0, _, _, _ => rfl
  | n + 1, i8, i9, i10 => by
    have h : ln21o0 N0 (n + 1) (t21o0 N0 x i8 i9 i10) (h21o0 N0 x i8 i9 i10) K = (bif decide (i9 < (↑(List.length x.snd.fst) : Int)) then (bif decide (0 ≤ i9) && decide (i9 < (↑(List.length x.snd.fst) : Int)) then (Option.bind (x.snd.fst[0 + i9.toNat]?) fun v11 => (Option.bind (fn43 (i10, ()) (i8, v11, ())) fun v12 => ln21o0 N0 n (t21o0 N0 x v12.snd.fst (IntKind.i64.wrap (i9 + 1)) v12.fst.fst) (h21o0 N0 x v12.snd.fst (IntKind.i64.wrap (i9 + 1)) v12.fst.fst) K)) else none) else K (Exit.exit 0) (tx21o0o0 N0 x i8 i10) (hx21o0o0 N0 x i8 i10)) := by kernel_rfl
    rw [h]
    simp only [decide_self, decide_true, Nat.zero_add, Bool.and_true, Bool.true_and, cond_true, law21o0, leq21o0 N0 x K n]
theorem rest21o0o0 (N0 : Nat) (x : Sh.Ts [Sh.int IntKind.i64, (Sh.int IntKind.i64).sl]) (w15 : (Sh.int IntKind.i64).T) (w16 : Sh.bool.T) : rk21o0 N0 (Exit.exit 0) (tx21o0o0 N0 x w15 w16) (hx21o0o0 N0 x w15 w16) = some (((w16, ()), w15, ())) := by kernel_rfl
noncomputable def law21 (N0 : Nat) (m : MT) (x : (Int × (List Int) × Unit)) : Option (MT × (Int × Unit)) := (law21o0 N0 x (fun w15 w16 => some (((w16, ()), w15, ()))) N0 x.fst 0 m.fst)
theorem eq21 (N0 : Nat) (m : MSh.T) (x : Sh.Ts [Sh.int IntKind.i64, (Sh.int IntKind.i64).sl]) : codeLawM Try.prog env21 200 (L21 N0) Try.f21 c21 (MSh) [.int .i64, .sl (.int .i64)] [.int .i64] m x = law21 N0 m x := by
  have h : codeLawM Try.prog env21 200 (L21 N0) Try.f21 c21 (MSh) [.int .i64, .sl (.int .i64)] [.int .i64] m x = (ln21o0 N0 N0 (t21o0 N0 x x.fst 0 m.fst) (h21o0 N0 x x.fst 0 m.fst) (rk21o0 N0)) := by kernel_rfl
  rw [h]
  unfold law21
  simp only [decide_self, decide_true, Nat.zero_add, Bool.and_true, Bool.true_and, cond_true, leq21o0, rest21o0o0]
noncomputable def fn21 (m : MT) (x : (Int × (List Int) × Unit)) : Option (MT × (Int × Unit)) := law21 (10 ^ 30) m x
theorem acts21 : Acts Try.prog 21 (MSh) [.int .i64, .sl (.int .i64)] [.int .i64] fn21 := (Acts.of_code mixed (fn := Try.f21) (c := c21) Try.func21 (by kernel_rfl) (by kernel_rfl) env21 200 (L21_fit _) (by kernel_rfl) (by kernel_rfl)).to (eq21 _)
noncomputable def s21 : Summ Try.prog := acts21.summ (by kernel_rfl)
/- chicane/wear.Turn -/
noncomputable def c8 : Code := (Try.f8.body.getD .skip)
noncomputable def env8 : Env Try.prog := [s21, s20, s22, s23]
noncomputable def L8 : Loops Try.prog := []
theorem L8_fit : (L8).fit c8 := Loops.fit_nil
noncomputable def law8 (m : MT) (x : (MakeT × TyreT × Int × Int × Unit)) : Option (MT × (TyreT × Unit)) := (Option.bind (fn21 m (x.fst.snd.fst, [x.snd.snd.fst], ())) fun v0 => (Option.bind (fn20 v0.fst (x.snd.fst.fst, v0.snd)) fun v1 => (Option.bind (fn22 v1.fst (x.snd.fst.fst, x.fst.snd.snd.snd.fst, ())) fun v2 => (Option.bind (fn21 v2.fst (x.fst.snd.snd.fst, [v2.snd.fst, x.snd.snd.snd.fst], ())) fun v3 => (Option.bind (fn22 v3.fst (v1.snd.fst, v3.snd)) fun v4 => (Option.bind (fn23 (v4.snd.fst, -858993459200, 8589934592000, ())) fun v5 => (Option.bind (fn21 v4.fst (x.fst.fst, [x.snd.snd.fst], ())) fun v6 => (Option.bind (fn20 v6.fst (x.snd.fst.snd.fst, v6.snd)) fun v7 => (Option.bind (fn23 (v7.snd.fst, 0, 4294967296, ())) fun v8 => some (((v7.fst.fst, ()), (v5.fst, v8.fst, ()), ())))))))))))
theorem eq8 (m : MSh.T) (x : Sh.Ts [MakeSh, TyreSh, Sh.int IntKind.i64, Sh.int IntKind.i64]) : codeLawM Try.prog env8 200 (L8) Try.f8 c8 (MSh) [MakeSh, TyreSh, .int .i64, .int .i64] [TyreSh] m x = law8 m x := by kernel_rfl
noncomputable def fn8 (m : MT) (x : (MakeT × TyreT × Int × Int × Unit)) : Option (MT × (TyreT × Unit)) := law8 m x
theorem acts8 : Acts Try.prog 8 (MSh) [MakeSh, TyreSh, .int .i64, .int .i64] [TyreSh] fn8 := (Acts.of_code mixed (fn := Try.f8) (c := c8) Try.func8 (by kernel_rfl) (by kernel_rfl) env8 200 (L8_fit) (by kernel_rfl) (by kernel_rfl)).to (eq8)
noncomputable def s8 : Summ Try.prog := acts8.summ (by kernel_rfl)
/- chicane/chicanelaw46.plain -/
noncomputable def c10 : Code := (Try.f10.body.getD .skip)
noncomputable def env10 : Env Try.prog := []
noncomputable def s10 : Summ Try.prog := inlSumm allRw mixed 10 Try.f10 c10 Try.func10 (by kernel_rfl) (by kernel_rfl) env10 200 [] Loops.fit_nil
/- chicane/chicaneref46.Turn -/
noncomputable def c9 : Code := (Try.f9.body.getD .skip)
noncomputable def env9 : Env Try.prog := [s25, s24, s26, s27]
noncomputable def L9 : Loops Try.prog := []
theorem L9_fit : (L9).fit c9 := Loops.fit_nil
noncomputable def law9 (m : Mx1T) (x : (KT × TT × Int × Int × Unit)) : Option (Mx1T × (TT × Unit)) := (Option.bind (fn25 m (x.fst.fst, x.snd.snd.fst, ())) fun v0 => (Option.bind (fn24 v0.fst (x.snd.fst.snd.fst, v0.snd)) fun v1 => (Option.bind (fn25 v1.fst (x.fst.snd.fst, x.snd.snd.fst, ())) fun v2 => (Option.bind (fn24 v2.fst (x.snd.fst.fst, v2.snd)) fun v3 => (Option.bind (fn26 v3.fst (x.snd.fst.fst, x.fst.snd.snd.snd.fst, ())) fun v4 => (Option.bind (fn25 v4.fst (x.fst.snd.snd.fst, v4.snd)) fun v5 => (Option.bind (fn25 v5.fst (v5.snd.fst, x.snd.snd.snd)) fun v6 => (Option.bind (fn26 v6.fst (v3.snd.fst, v6.snd)) fun v7 => (Option.bind (fn27 (v7.snd.fst, -858993459200, 8589934592000, ())) fun v8 => (Option.bind (fn27 (v1.snd.fst, 0, 4294967296, ())) fun v9 => some (((v7.fst.fst, ()), (v8.fst, v9.fst, ()), ()))))))))))))
theorem eq9 (m : Mx1Sh.T) (x : Sh.Ts [KSh, TSh, Sh.int IntKind.i64, Sh.int IntKind.i64]) : codeLawM Try.prog env9 200 (L9) Try.f9 c9 (Mx1Sh) [KSh, TSh, .int .i64, .int .i64] [TSh] m x = law9 m x := by kernel_rfl
noncomputable def fn9 (m : Mx1T) (x : (KT × TT × Int × Int × Unit)) : Option (Mx1T × (TT × Unit)) := law9 m x
theorem acts9 : Acts Try.prog 9 (Mx1Sh) [KSh, TSh, .int .i64, .int .i64] [TSh] fn9 := (Acts.of_code mixed (fn := Try.f9) (c := c9) Try.func9 (by kernel_rfl) (by kernel_rfl) env9 200 (L9_fit) (by kernel_rfl) (by kernel_rfl)).to (eq9)
noncomputable def s9 : Summ Try.prog := acts9.summ (by kernel_rfl)
/- chicane/wear.between -/
noncomputable def c29 : Code := (Try.f29.body.getD .skip)
noncomputable def env29 : Env Try.prog := []
noncomputable def b29o0 : Code := ((kid ((subAt c29 [0, 1, 0, 1]).getD .skip) 0).getD .skip)
noncomputable def kx29o0 : Exit → List Nat | .ret => [6] | _ => []
noncomputable def Li29o0 (N0 : Nat) : Loops Try.prog := []
noncomputable def ls29o0 (N0 : Nat) : LSumm Try.prog := loopSumm mixed env29 200 (Li29o0 N0) b29o0 (Loops.fit_nil) [0, 1, 9, 10, 11] kx29o0 (N0)
noncomputable def ln29o0 {β : Type} (N0 : Nat) (n : Nat) (t : List AV) (h : Heap) (K : Exit → List AV → Heap → Option β) : Option β := loopN Try.prog env29 (Sh.nes [.int .i64, .int .i64, .sl (.int .i64)]) 200 (Li29o0 N0) b29o0 [0, 1, 9, 10, 11] kx29o0 n t h K
noncomputable def L29 (N0 : Nat) : Loops Try.prog := [([0, 1, 0, 1], ls29o0 N0)]
theorem L29_fit (N0 : Nat) : (L29 N0).fit c29 := Loops.fit_cons (by kernel_rfl) (Loops.fit_nil)
noncomputable def K29 : Exit → List AV → Heap → Option (Sh.Ts [.bool]) := fun e t h => outK (P := Try.prog) Try.f29 [.bool] e t h
noncomputable def rk29o0 (N0 : Nat) : Exit → List AV → Heap → Option (Sh.Ts [.bool]) := (blkK 0 (seqK Try.prog env29 (Sh.nes [.int .i64, .int .i64, .sl (.int .i64)]) 198 (L29 N0) [1, 1] ((subAt c29 [1, 1]).getD .skip) K29))
noncomputable def t29o0 (N0 : Nat) (x : Sh.Ts [Sh.int IntKind.i64, Sh.int IntKind.i64, (Sh.int IntKind.i64).sl]) (i7 : Int) : List AV := [AV.val (Value.int IntKind.i64 x.fst), AV.val (Value.int IntKind.i64 x.snd.fst), AV.any, AV.any, AV.any, AV.any, AV.any, AV.any, AV.any, AV.slc 0 0 (List.length x.snd.snd.fst) Cap.low, AV.val (Value.int IntKind.i64 (↑(List.length x.snd.snd.fst) : Int)), AV.val (Value.int IntKind.i64 i7), AV.any, AV.any, AV.any, AV.any, AV.any, AV.any, AV.any, AV.any, AV.any, AV.any, AV.any, AV.any]
noncomputable def h29o0 (N0 : Nat) (x : Sh.Ts [Sh.int IntKind.i64, Sh.int IntKind.i64, (Sh.int IntKind.i64).sl]) (i7 : Int) : Heap := [Ent.live (Blk.mk (Cells.arr (Sh.int IntKind.i64) x.snd.snd.fst) false none)]
noncomputable def tx29o0o0 (N0 : Nat) (x : Sh.Ts [Sh.int IntKind.i64, Sh.int IntKind.i64, (Sh.int IntKind.i64).sl]) : List AV := [AV.any, AV.any, AV.any, AV.any, AV.any, AV.any, AV.val (Value.bool false), AV.any, AV.any, AV.any, AV.any, AV.any, AV.any, AV.any, AV.any, AV.any, AV.any, AV.any, AV.any, AV.any, AV.any, AV.any, AV.any, AV.any]
noncomputable def hx29o0o0 (N0 : Nat) (x : Sh.Ts [Sh.int IntKind.i64, Sh.int IntKind.i64, (Sh.int IntKind.i64).sl]) : Heap := [Ent.live (Blk.mk (Cells.arr (Sh.int IntKind.i64) x.snd.snd.fst) false none)]
noncomputable def tx29o0o1 (N0 : Nat) (x : Sh.Ts [Sh.int IntKind.i64, Sh.int IntKind.i64, (Sh.int IntKind.i64).sl]) : List AV := [AV.any, AV.any, AV.any, AV.any, AV.any, AV.any, AV.any, AV.any, AV.any, AV.any, AV.any, AV.any, AV.any, AV.any, AV.any, AV.any, AV.any, AV.any, AV.any, AV.any, AV.any, AV.any, AV.any, AV.any]
noncomputable def hx29o0o1 (N0 : Nat) (x : Sh.Ts [Sh.int IntKind.i64, Sh.int IntKind.i64, (Sh.int IntKind.i64).sl]) : Heap := [Ent.live (Blk.mk (Cells.arr (Sh.int IntKind.i64) x.snd.snd.fst) false none)]
noncomputable def law29o0 {β : Type} (N0 : Nat) (x : (Int × Int × (List Int) × Unit)) (k0 : Option β) (k1 : Option β) : Nat → Int → Option β
  | 0, _ => none
  | n + 1, i7 => (bif decide (i7 < (↑(List.length x.snd.snd.fst) : Int)) then (bif decide (0 ≤ i7) && decide (i7 < (↑(List.length x.snd.snd.fst) : Int)) then (Option.bind x.snd.snd.fst[i7.toNat]? fun v8 => (bif decide (v8 < x.fst) then k0 else (bif decide (v8 > x.snd.fst) then k0 else law29o0 N0 x k0 k1 n (IntKind.i64.wrap (i7 + 1))))) else none) else k1)
theorem leq29o0 {β : Type} (N0 : Nat) (x : Sh.Ts [Sh.int IntKind.i64, Sh.int IntKind.i64, (Sh.int IntKind.i64).sl]) (K : Exit → List AV → Heap → Option β) : ∀ (n : Nat) (i7 : Int), ln29o0 N0 n (t29o0 N0 x i7) (h29o0 N0 x i7) K = law29o0 N0 x (K (Exit.ret) (tx29o0o0 N0 x) (hx29o0o0 N0 x)) (K (Exit.exit 0) (tx29o0o1 N0 x) (hx29o0o1 N0 x)) n i7
  | 0, _ => rfl
  | n + 1, i7 => by
    have h : ln29o0 N0 (n + 1) (t29o0 N0 x i7) (h29o0 N0 x i7) K = (bif decide (i7 < (↑(List.length x.snd.snd.fst) : Int)) then (bif decide (0 ≤ i7) && decide (i7 < (↑(List.length x.snd.snd.fst) : Int)) then (Option.bind (x.snd.snd.fst[0 + i7.toNat]?) fun v8 => (bif decide (v8 < x.fst) then K (Exit.ret) (tx29o0o0 N0 x) (hx29o0o0 N0 x) else (bif decide (v8 > x.snd.fst) then K (Exit.ret) (tx29o0o0 N0 x) (hx29o0o0 N0 x) else ln29o0 N0 n (t29o0 N0 x (IntKind.i64.wrap (i7 + 1))) (h29o0 N0 x (IntKind.i64.wrap (i7 + 1))) K))) else none) else K (Exit.exit 0) (tx29o0o1 N0 x) (hx29o0o1 N0 x)) := by kernel_rfl
    rw [h]
    simp only [decide_self, decide_true, Nat.zero_add, Bool.and_true, Bool.true_and, cond_true, law29o0, leq29o0 N0 x K n]
theorem rest29o0o0 (N0 : Nat) (x : Sh.Ts [Sh.int IntKind.i64, Sh.int IntKind.i64, (Sh.int IntKind.i64).sl]) : rk29o0 N0 (Exit.ret) (tx29o0o0 N0 x) (hx29o0o0 N0 x) = some ((false, ())) := by kernel_rfl
theorem rest29o0o1 (N0 : Nat) (x : Sh.Ts [Sh.int IntKind.i64, Sh.int IntKind.i64, (Sh.int IntKind.i64).sl]) : rk29o0 N0 (Exit.exit 0) (tx29o0o1 N0 x) (hx29o0o1 N0 x) = some ((true, ())) := by kernel_rfl
noncomputable def law29 (N0 : Nat) (x : (Int × Int × (List Int) × Unit)) : Option ((Bool × Unit)) := (law29o0 N0 x (some ((false, ()))) (some ((true, ()))) N0 0)
theorem eq29 (N0 : Nat) (x : Sh.Ts [Sh.int IntKind.i64, Sh.int IntKind.i64, (Sh.int IntKind.i64).sl]) : codeLaw Try.prog env29 200 (L29 N0) Try.f29 c29 [.int .i64, .int .i64, .sl (.int .i64)] [.bool] x = law29 N0 x := by
  have h : codeLaw Try.prog env29 200 (L29 N0) Try.f29 c29 [.int .i64, .int .i64, .sl (.int .i64)] [.bool] x = (ln29o0 N0 N0 (t29o0 N0 x 0) (h29o0 N0 x 0) (rk29o0 N0)) := by kernel_rfl
  rw [h]
  unfold law29
  simp only [decide_self, decide_true, Nat.zero_add, Bool.and_true, Bool.true_and, cond_true, leq29o0, rest29o0o0, rest29o0o1]
noncomputable def fn29 (x : (Int × Int × (List Int) × Unit)) : Option ((Bool × Unit)) := law29 (10 ^ 30) x
theorem reads29 : Reads Try.prog 29 [.int .i64, .int .i64, .sl (.int .i64)] [.bool] fn29 := (Reads.of_code mixed (fn := Try.f29) (c := c29) Try.func29 (by kernel_rfl) (by kernel_rfl) env29 200 (L29_fit _) (by kernel_rfl)).to (eq29 _)
noncomputable def s29 : Summ Try.prog := reads29.summ
/- chicane/wear.values -/
noncomputable def c30 : Code := (Try.f30.body.getD .skip)
noncomputable def env30 : Env Try.prog := []
noncomputable def b30o0 : Code := ((kid ((subAt c30 [0, 1, 0, 1, 1]).getD .skip) 0).getD .skip)
noncomputable def kx30o0 : Exit → List Nat | .ret => [2] | .exit 0 => [3] | _ => []
noncomputable def Li30o0 (N0 : Nat) : Loops Try.prog := []
noncomputable def ls30o0 (N0 : Nat) : LSumm Try.prog := loopSumm mixed env30 200 (Li30o0 N0) b30o0 (Loops.fit_nil) [3, 9, 10, 11] kx30o0 (Nat.succ N0)
noncomputable def ln30o0 {β : Type} (N0 : Nat) (n : Nat) (t : List AV) (h : Heap) (K : Exit → List AV → Heap → Option β) : Option β := loopN Try.prog env30 (Sh.nes [.sl (DotSh)]) 200 (Li30o0 N0) b30o0 [3, 9, 10, 11] kx30o0 n t h K
noncomputable def L30 (N0 : Nat) : Loops Try.prog := [([0, 1, 0, 1, 1], ls30o0 N0)]
theorem L30_fit (N0 : Nat) : (L30 N0).fit c30 := Loops.fit_cons (by kernel_rfl) (Loops.fit_nil)
noncomputable def K30 : Exit → List AV → Heap → Option (List (Sh.T (.int .i64))) := fun e t h => outF (P := Try.prog) Try.f30 (Sh.nes [.sl (DotSh)]) (.int .i64) e t h
noncomputable def rk30o0 (N0 : Nat) : Exit → List AV → Heap → Option (List (Sh.T (.int .i64))) := (blkK 0 (seqK Try.prog env30 (Sh.nes [.sl (DotSh)]) 197 (L30 N0) [1, 1, 1] ((subAt c30 [1, 1, 1]).getD .skip) K30))
noncomputable def t30o0 (N0 : Nat) (x : Sh.Ts [DotSh.sl]) (i8 : Nat) (i9 : Int) (i10 : List (Sh.int IntKind.i64).T) : List AV := [AV.any, AV.any, AV.any, AV.slc 1 0 i8 Cap.unk, AV.any, AV.any, AV.any, AV.any, AV.any, AV.slc 0 0 (List.length x.fst) Cap.low, AV.val (Value.int IntKind.i64 (↑(List.length x.fst) : Int)), AV.val (Value.int IntKind.i64 i9), AV.any, AV.any, AV.any, AV.any, AV.any, AV.any, AV.any, AV.any, AV.any, AV.any]
noncomputable def h30o0 (N0 : Nat) (x : Sh.Ts [DotSh.sl]) (i8 : Nat) (i9 : Int) (i10 : List (Sh.int IntKind.i64).T) : Heap := [Ent.live (Blk.mk (Cells.arr (Sh.st [Sh.int IntKind.i64, Sh.int IntKind.i64]) x.fst) false none), Ent.live (Blk.mk (Cells.arr (Sh.int IntKind.i64) i10) true (some 1))]
noncomputable def tx30o0o0 (N0 : Nat) (x : Sh.Ts [DotSh.sl]) (w12 : Nat) (w13 : List (Sh.int IntKind.i64).T) : List AV := [AV.any, AV.any, AV.any, AV.slc 1 0 w12 Cap.unk, AV.any, AV.any, AV.any, AV.any, AV.any, AV.any, AV.any, AV.any, AV.any, AV.any, AV.any, AV.any, AV.any, AV.any, AV.any, AV.any, AV.any, AV.any]
noncomputable def hx30o0o0 (N0 : Nat) (x : Sh.Ts [DotSh.sl]) (w12 : Nat) (w13 : List (Sh.int IntKind.i64).T) : Heap := [Ent.live (Blk.mk (Cells.arr (Sh.st [Sh.int IntKind.i64, Sh.int IntKind.i64]) x.fst) false none), Ent.live (Blk.mk (Cells.arr (Sh.int IntKind.i64) w13) true (some 1))]
noncomputable def law30o0 {β : Type} (N0 : Nat) (x : ((List DotT) × Unit)) (k0 : Nat → List Int → Option β) : Nat → Nat → Int → List Int → Option β
  | 0, _, _, _ => none
  | n + 1, i8, i9, i10 => (bif decide (i9 < (↑(List.length x.fst) : Int)) then (bif decide (0 ≤ i9) && decide (i9 < (↑(List.length x.fst) : Int)) then (Option.bind x.fst[i9.toNat]? fun v11 => (bif decide (i8 = i10.length) && (decide ((i8 + 1) * Try.prog.types[22].bytes ≤ 140737488355328) && decide (i8 + 1 ≤ 9223372036854775807)) then law30o0 N0 x k0 n (i8 + 1) (IntKind.i64.wrap (i9 + 1)) (i10.append [v11.snd.fst]) else none)) else none) else k0 i8 i10)
theorem leq30o0 {β : Type} (N0 : Nat) (x : Sh.Ts [DotSh.sl]) (K : Exit → List AV → Heap → Option β) : ∀ (n : Nat) (i8 : Nat) (i9 : Int) (i10 : List (Sh.int IntKind.i64).T), ln30o0 N0 n (t30o0 N0 x i8 i9 i10) (h30o0 N0 x i8 i9 i10) K = law30o0 N0 x (fun w12 w13 => K (Exit.exit 0) (tx30o0o0 N0 x w12 w13) (hx30o0o0 N0 x w12 w13)) n i8 i9 i10
  | 0, _, _, _ => rfl
  | n + 1, i8, i9, i10 => by
    have h : ln30o0 N0 (n + 1) (t30o0 N0 x i8 i9 i10) (h30o0 N0 x i8 i9 i10) K = (bif decide (i9 < (↑(List.length x.fst) : Int)) then (bif decide (0 ≤ i9) && decide (i9 < (↑(List.length x.fst) : Int)) then (Option.bind x.fst[i9.toNat]? fun v11 => (bif decide (i8 = i10.length) && (decide ((i8 + 1) * Try.prog.types[22].bytes ≤ 140737488355328) && decide (i8 + 1 ≤ 9223372036854775807)) then ln30o0 N0 n (t30o0 N0 x (i8 + 1) (IntKind.i64.wrap (i9 + 1)) (i10.append [v11.snd.fst])) (h30o0 N0 x (i8 + 1) (IntKind.i64.wrap (i9 + 1)) (i10.append [v11.snd.fst])) K else none)) else none) else K (Exit.exit 0) (tx30o0o0 N0 x i8 i10) (hx30o0o0 N0 x i8 i10)) := by kernel_rfl
    rw [h]
    simp only [decide_self, decide_true, Nat.zero_add, Bool.and_true, Bool.true_and, cond_true, law30o0, leq30o0 N0 x K n]
theorem rest30o0o0 (N0 : Nat) (x : Sh.Ts [DotSh.sl]) (w14 : Nat) (w15 : List (Sh.int IntKind.i64).T) : rk30o0 N0 (Exit.exit 0) (tx30o0o0 N0 x w14 w15) (hx30o0o0 N0 x w14 w15) = (bif decide (w14 = w15.length) then some w15 else none) := by kernel_rfl
noncomputable def law30 (N0 : Nat) (x : ((List DotT) × Unit)) : Option (List Int) := (bif decide (0 ≤ (↑(List.length x.fst) : Int)) && (decide ((↑(List.length x.fst) : Int).toNat * Try.prog.types[22].bytes ≤ 140737488355328) && decide ((↑(List.length x.fst) : Int) ≤ 4611686018427387904)) then (bif decide (0 < (↑(List.length x.fst) : Int)) then (bif decide (0 ≤ 0) && decide (0 < (↑(List.length x.fst) : Int)) then (Option.bind (x.fst[Int.toNat 0]?) fun v0 => (law30o0 N0 x (fun w14 w15 => (bif decide (w14 = w15.length) then some w15 else none)) N0 1 (IntKind.i64.wrap (0 + 1)) ([].append [v0.snd.fst]))) else none) else some []) else none)
theorem eq30 (N0 : Nat) (x : Sh.Ts [DotSh.sl]) : codeLawF Try.prog env30 200 (L30 N0) Try.f30 c30 [.sl (DotSh)] (.int .i64) x = law30 N0 x := by
  have h : codeLawF Try.prog env30 200 (L30 N0) Try.f30 c30 [.sl (DotSh)] (.int .i64) x = (bif decide (0 ≤ (↑(List.length x.fst) : Int)) && (decide ((↑(List.length x.fst) : Int).toNat * Try.prog.types[22].bytes ≤ 140737488355328) && decide ((↑(List.length x.fst) : Int) ≤ 4611686018427387904)) then (bif decide (0 < (↑(List.length x.fst) : Int)) then (bif decide (0 ≤ 0) && decide (0 < (↑(List.length x.fst) : Int)) then (Option.bind (x.fst[Int.toNat 0]?) fun v0 => (ln30o0 N0 N0 (t30o0 N0 x 1 (IntKind.i64.wrap (0 + 1)) ([].append [v0.snd.fst])) (h30o0 N0 x 1 (IntKind.i64.wrap (0 + 1)) ([].append [v0.snd.fst])) (rk30o0 N0))) else none) else some []) else none) := by kernel_rfl
  rw [h]
  unfold law30
  simp only [decide_self, decide_true, Nat.zero_add, Bool.and_true, Bool.true_and, cond_true, leq30o0, rest30o0o0]
noncomputable def fn30 (x : ((List DotT) × Unit)) : Option (List (Int)) := law30 (10 ^ 30) x
theorem reads30 : ReadsF Try.prog 30 [.sl (DotSh)] (.int .i64) fn30 := (ReadsF.of_code mixed (fn := Try.f30) (c := c30) Try.func30 (by kernel_rfl) (by kernel_rfl) env30 200 (L30_fit _)).to (eq30 _)
noncomputable def s30 : Summ Try.prog := reads30.summ
/- chicane/wear.Right -/
noncomputable def c11 : Code := (Try.f11.body.getD .skip)
noncomputable def env11 : Env Try.prog := [s28, s29, s30]
noncomputable def b11o0 : Code := ((kid ((subAt c11 [0, 1, 0, 1]).getD .skip) 0).getD .skip)
noncomputable def kx11o0 : Exit → List Nat | .ret => [2] | .exit 0 => [1] | _ => []
noncomputable def Li11o0 (N0 : Nat) : Loops Try.prog := []
noncomputable def ls11o0 (N0 : Nat) : LSumm Try.prog := loopSumm mixed env11 200 (Li11o0 N0) b11o0 (Loops.fit_nil) [1, 10, 11, 12] kx11o0 (N0)
noncomputable def ln11o0 {β : Type} (N0 : Nat) (n : Nat) (t : List AV) (h : Heap) (K : Exit → List AV → Heap → Option β) : Option β := loopN Try.prog env11 (Sh.nes [MakeSh]) 200 (Li11o0 N0) b11o0 [1, 10, 11, 12] kx11o0 n t h K
noncomputable def L11 (N0 : Nat) : Loops Try.prog := [([0, 1, 0, 1], ls11o0 N0)]
theorem L11_fit (N0 : Nat) : (L11 N0).fit c11 := Loops.fit_cons (by kernel_rfl) (Loops.fit_nil)
noncomputable def K11 : Exit → List AV → Heap → Option (Sh.Ts [.int .i64]) := fun e t h => outK (P := Try.prog) Try.f11 [.int .i64] e t h
noncomputable def rk11o0 (N0 : Nat) : Exit → List AV → Heap → Option (Sh.Ts [.int .i64]) := (blkK 0 (seqK Try.prog env11 (Sh.nes [MakeSh]) 198 (L11 N0) [1, 1] ((subAt c11 [1, 1]).getD .skip) K11))
noncomputable def t11o0 (N0 : Nat) (x : Sh.Ts [MakeSh]) (i14 : Int) : List AV := [AV.any, AV.ptr 2 0, AV.any, AV.any, AV.any, AV.any, AV.any, AV.any, AV.any, AV.any, AV.slc 3 0 2 (Cap.exact 2), AV.val (Value.int IntKind.i64 (↑2 : Int)), AV.val (Value.int IntKind.i64 i14), AV.any, AV.any, AV.any, AV.any, AV.any, AV.any, AV.any, AV.any, AV.any, AV.any, AV.any, AV.any, AV.any, AV.any, AV.any, AV.any, AV.any, AV.any, AV.any, AV.any, AV.any, AV.any, AV.any, AV.any, AV.any, AV.any, AV.any, AV.any, AV.any, AV.any, AV.any, AV.any, AV.any, AV.any]
noncomputable def h11o0 (N0 : Nat) (x : Sh.Ts [MakeSh]) (i14 : Int) : Heap := [Ent.live (Blk.mk (Cells.arr (Sh.st [Sh.int IntKind.i64, Sh.int IntKind.i64]) x.fst.snd.snd.snd.snd.fst) false none), Ent.live (Blk.mk (Cells.arr (Sh.st [Sh.int IntKind.i64, Sh.int IntKind.i64]) x.fst.snd.snd.snd.snd.snd.fst) false none), Ent.live (Blk.mk (Cells.lit [AV.val (Value.int IntKind.i64 x.fst.fst), AV.val (Value.int IntKind.i64 x.fst.snd.fst), AV.val (Value.int IntKind.i64 x.fst.snd.snd.fst), AV.val (Value.int IntKind.i64 x.fst.snd.snd.snd.fst), AV.slc 0 0 (List.length x.fst.snd.snd.snd.snd.fst) Cap.low, AV.slc 1 0 (List.length x.fst.snd.snd.snd.snd.snd.fst) Cap.low]) true none), Ent.live (Blk.mk (Cells.lit [AV.slc 0 0 (List.length x.fst.snd.snd.snd.snd.fst) Cap.low, AV.slc 1 0 (List.length x.fst.snd.snd.snd.snd.snd.fst) Cap.low]) true none)]
noncomputable def tx11o0o0 (N0 : Nat) (x : Sh.Ts [MakeSh]) (w17 : (Sh.int IntKind.i64).T) : List AV := [AV.any, AV.any, AV.val (Value.int IntKind.i64 w17), AV.any, AV.any, AV.any, AV.any, AV.any, AV.any, AV.any, AV.any, AV.any, AV.any, AV.any, AV.any, AV.any, AV.any, AV.any, AV.any, AV.any, AV.any, AV.any, AV.any, AV.any, AV.any, AV.any, AV.any, AV.any, AV.any, AV.any, AV.any, AV.any, AV.any, AV.any, AV.any, AV.any, AV.any, AV.any, AV.any, AV.any, AV.any, AV.any, AV.any, AV.any, AV.any, AV.any, AV.any]
noncomputable def hx11o0o0 (N0 : Nat) (x : Sh.Ts [MakeSh]) (w17 : (Sh.int IntKind.i64).T) : Heap := [Ent.live (Blk.mk (Cells.arr (Sh.st [Sh.int IntKind.i64, Sh.int IntKind.i64]) x.fst.snd.snd.snd.snd.fst) false none), Ent.live (Blk.mk (Cells.arr (Sh.st [Sh.int IntKind.i64, Sh.int IntKind.i64]) x.fst.snd.snd.snd.snd.snd.fst) false none)]
noncomputable def tx11o0o1 (N0 : Nat) (x : Sh.Ts [MakeSh]) : List AV := [AV.any, AV.ptr 2 0, AV.any, AV.any, AV.any, AV.any, AV.any, AV.any, AV.any, AV.any, AV.any, AV.any, AV.any, AV.any, AV.any, AV.any, AV.any, AV.any, AV.any, AV.any, AV.any, AV.any, AV.any, AV.any, AV.any, AV.any, AV.any, AV.any, AV.any, AV.any, AV.any, AV.any, AV.any, AV.any, AV.any, AV.any, AV.any, AV.any, AV.any, AV.any, AV.any, AV.any, AV.any, AV.any, AV.any, AV.any, AV.any]
noncomputable def hx11o0o1 (N0 : Nat) (x : Sh.Ts [MakeSh]) : Heap := [Ent.live (Blk.mk (Cells.arr (Sh.st [Sh.int IntKind.i64, Sh.int IntKind.i64]) x.fst.snd.snd.snd.snd.fst) false none), Ent.live (Blk.mk (Cells.arr (Sh.st [Sh.int IntKind.i64, Sh.int IntKind.i64]) x.fst.snd.snd.snd.snd.snd.fst) false none), Ent.live (Blk.mk (Cells.lit [AV.val (Value.int IntKind.i64 x.fst.fst), AV.val (Value.int IntKind.i64 x.fst.snd.fst), AV.val (Value.int IntKind.i64 x.fst.snd.snd.fst), AV.val (Value.int IntKind.i64 x.fst.snd.snd.snd.fst), AV.slc 0 0 (List.length x.fst.snd.snd.snd.snd.fst) Cap.low, AV.slc 1 0 (List.length x.fst.snd.snd.snd.snd.snd.fst) Cap.low]) true none)]
noncomputable def law11o0 {β : Type} (N0 : Nat) (x : (MakeT × Unit)) (k0 : Int → Option β) (k1 : Option β) : Nat → Int → Option β
  | 0, _ => none
  | n + 1, i14 => (bif decide (i14 < (↑2 : Int)) then (bif decide (i14 = (↑0 : Int)) then (bif decide (List.length x.fst.snd.snd.snd.snd.fst = List.length x.fst.snd.snd.snd.snd.fst) then (Option.bind (fn28 (x.fst.snd.snd.snd.snd.fst, ())) fun v15 => (bif v15.fst != 0 then k0 v15.fst else law11o0 N0 x k0 k1 n (IntKind.i64.wrap (i14 + 1)))) else none) else (bif decide (i14 = (↑(0 + 1) : Int)) then (bif decide (List.length x.fst.snd.snd.snd.snd.snd.fst = List.length x.fst.snd.snd.snd.snd.snd.fst) then (Option.bind (fn28 x.fst.snd.snd.snd.snd.snd) fun v16 => (bif v16.fst != 0 then k0 v16.fst else law11o0 N0 x k0 k1 n (IntKind.i64.wrap (i14 + 1)))) else none) else none)) else k1)
theorem leq11o0 {β : Type} (N0 : Nat) (x : Sh.Ts [MakeSh]) (K : Exit → List AV → Heap → Option β) : ∀ (n : Nat) (i14 : Int), ln11o0 N0 n (t11o0 N0 x i14) (h11o0 N0 x i14) K = law11o0 N0 x (fun w17 => K (Exit.ret) (tx11o0o0 N0 x w17) (hx11o0o0 N0 x w17)) (K (Exit.exit 0) (tx11o0o1 N0 x) (hx11o0o1 N0 x)) n i14
  | 0, _ => rfl
  | n + 1, i14 => by
    have h : ln11o0 N0 (n + 1) (t11o0 N0 x i14) (h11o0 N0 x i14) K = (bif decide (i14 < (↑2 : Int)) then (bif decide (i14 = (↑0 : Int)) then (bif decide (List.length x.fst.snd.snd.snd.snd.fst = List.length x.fst.snd.snd.snd.snd.fst) && true then (Option.bind (fn28 (x.fst.snd.snd.snd.snd.fst, ())) fun v15 => (bif v15.fst != 0 then K (Exit.ret) (tx11o0o0 N0 x v15.fst) (hx11o0o0 N0 x v15.fst) else ln11o0 N0 n (t11o0 N0 x (IntKind.i64.wrap (i14 + 1))) (h11o0 N0 x (IntKind.i64.wrap (i14 + 1))) K)) else none) else (bif decide (i14 = (↑(0 + 1) : Int)) then (bif decide (List.length x.fst.snd.snd.snd.snd.snd.fst = List.length x.fst.snd.snd.snd.snd.snd.fst) && true then (Option.bind (fn28 x.fst.snd.snd.snd.snd.snd) fun v16 => (bif v16.fst != 0 then K (Exit.ret) (tx11o0o0 N0 x v16.fst) (hx11o0o0 N0 x v16.fst) else ln11o0 N0 n (t11o0 N0 x (IntKind.i64.wrap (i14 + 1))) (h11o0 N0 x (IntKind.i64.wrap (i14 + 1))) K)) else none) else none)) else K (Exit.exit 0) (tx11o0o1 N0 x) (hx11o0o1 N0 x)) := by kernel_rfl
    rw [h]
    simp only [decide_self, decide_true, Nat.zero_add, Bool.and_true, Bool.true_and, cond_true, law11o0, leq11o0 N0 x K n]
theorem rest11o0o0 (N0 : Nat) (x : Sh.Ts [MakeSh]) (w18 : (Sh.int IntKind.i64).T) : rk11o0 N0 (Exit.ret) (tx11o0o0 N0 x w18) (hx11o0o0 N0 x w18) = some ((w18, ())) := by kernel_rfl
theorem rest11o0o1 (N0 : Nat) (x : Sh.Ts [MakeSh]) : rk11o0 N0 (Exit.exit 0) (tx11o0o1 N0 x) (hx11o0o1 N0 x) = (Option.bind (fn29 (0, 4294967296, [x.fst.fst, x.fst.snd.fst, x.fst.snd.snd.fst], ())) fun v19 => (bif !v19.fst then (bif !v19.fst then some ((40, ())) else (bif decide (List.length x.fst.snd.snd.snd.snd.fst = List.length x.fst.snd.snd.snd.snd.fst) then (Option.bind (fn30 (x.fst.snd.snd.snd.snd.fst, ())) fun v20 => (bif decide (List.length x.fst.snd.snd.snd.snd.snd.fst = List.length x.fst.snd.snd.snd.snd.snd.fst) then (Option.bind (fn30 x.fst.snd.snd.snd.snd.snd) fun v21 => (bif decide ((v20.length + v21.length) * Try.prog.types[22].bytes ≤ 140737488355328) && decide (v20.length + v21.length ≤ 9223372036854775807) then (bif decide (v20.length + v21.length = (v20 ++ v21).length) then (Option.bind (fn29 (0, 8589934592, v20 ++ v21, ())) fun v22 => (bif !v22.fst then some ((40, ())) else some ((0, ())))) else none) else none)) else none)) else none)) else (Option.bind (fn29 (-429496729600, 429496729600, [x.fst.snd.snd.snd.fst], ())) fun v23 => (bif !v23.fst then some ((40, ())) else (bif decide (List.length x.fst.snd.snd.snd.snd.fst = List.length x.fst.snd.snd.snd.snd.fst) then (Option.bind (fn30 (x.fst.snd.snd.snd.snd.fst, ())) fun v24 => (bif decide (List.length x.fst.snd.snd.snd.snd.snd.fst = List.length x.fst.snd.snd.snd.snd.snd.fst) then (Option.bind (fn30 x.fst.snd.snd.snd.snd.snd) fun v25 => (bif decide ((v24.length + v25.length) * Try.prog.types[22].bytes ≤ 140737488355328) && decide (v24.length + v25.length ≤ 9223372036854775807) then (bif decide (v24.length + v25.length = (v24 ++ v25).length) then (Option.bind (fn29 (0, 8589934592, v24 ++ v25, ())) fun v26 => (bif !v26.fst then some ((40, ())) else some ((0, ())))) else none) else none)) else none)) else none))))) := by
  have h : rk11o0 N0 (Exit.exit 0) (tx11o0o1 N0 x) (hx11o0o1 N0 x) = (Option.bind (fn29 (0, 4294967296, [x.fst.fst, x.fst.snd.fst, x.fst.snd.snd.fst], ())) fun v19 => (bif !v19.fst then (bif !v19.fst then some ((40, ())) else (bif decide (List.length x.fst.snd.snd.snd.snd.fst = List.length x.fst.snd.snd.snd.snd.fst) && true then (Option.bind (fn30 (x.fst.snd.snd.snd.snd.fst, ())) fun v20 => (bif decide (List.length x.fst.snd.snd.snd.snd.snd.fst = List.length x.fst.snd.snd.snd.snd.snd.fst) && true then (Option.bind (fn30 x.fst.snd.snd.snd.snd.snd) fun v21 => (bif decide (v20.length = v20.length) && (decide (v21.length = v21.length) && (decide ((v20.length + v21.length) * Try.prog.types[22].bytes ≤ 140737488355328) && decide (v20.length + v21.length ≤ 9223372036854775807))) then (bif decide (v20.length + v21.length = (v20 ++ v21).length) && true then (Option.bind (fn29 (0, 8589934592, v20 ++ v21, ())) fun v22 => (bif !v22.fst then some ((40, ())) else some ((0, ())))) else none) else none)) else none)) else none)) else (Option.bind (fn29 (-429496729600, 429496729600, [x.fst.snd.snd.snd.fst], ())) fun v23 => (bif !v23.fst then some ((40, ())) else (bif decide (List.length x.fst.snd.snd.snd.snd.fst = List.length x.fst.snd.snd.snd.snd.fst) && true then (Option.bind (fn30 (x.fst.snd.snd.snd.snd.fst, ())) fun v24 => (bif decide (List.length x.fst.snd.snd.snd.snd.snd.fst = List.length x.fst.snd.snd.snd.snd.snd.fst) && true then (Option.bind (fn30 x.fst.snd.snd.snd.snd.snd) fun v25 => (bif decide (v24.length = v24.length) && (decide (v25.length = v25.length) && (decide ((v24.length + v25.length) * Try.prog.types[22].bytes ≤ 140737488355328) && decide (v24.length + v25.length ≤ 9223372036854775807))) then (bif decide (v24.length + v25.length = (v24 ++ v25).length) && true then (Option.bind (fn29 (0, 8589934592, v24 ++ v25, ())) fun v26 => (bif !v26.fst then some ((40, ())) else some ((0, ())))) else none) else none)) else none)) else none))))) := by kernel_rfl
  rw [h]
  simp only [decide_self, decide_true, Nat.zero_add, Bool.and_true, Bool.true_and, cond_true, leq11o0, rest11o0o0]
noncomputable def law11 (N0 : Nat) (x : (MakeT × Unit)) : Option ((Int × Unit)) := (law11o0 N0 x (fun w18 => some ((w18, ()))) ((Option.bind (fn29 (0, 4294967296, [x.fst.fst, x.fst.snd.fst, x.fst.snd.snd.fst], ())) fun v19 => (bif !v19.fst then (bif !v19.fst then some ((40, ())) else (bif decide (List.length x.fst.snd.snd.snd.snd.fst = List.length x.fst.snd.snd.snd.snd.fst) then (Option.bind (fn30 (x.fst.snd.snd.snd.snd.fst, ())) fun v20 => (bif decide (List.length x.fst.snd.snd.snd.snd.snd.fst = List.length x.fst.snd.snd.snd.snd.snd.fst) then (Option.bind (fn30 x.fst.snd.snd.snd.snd.snd) fun v21 => (bif decide ((v20.length + v21.length) * Try.prog.types[22].bytes ≤ 140737488355328) && decide (v20.length + v21.length ≤ 9223372036854775807) then (bif decide (v20.length + v21.length = (v20 ++ v21).length) then (Option.bind (fn29 (0, 8589934592, v20 ++ v21, ())) fun v22 => (bif !v22.fst then some ((40, ())) else some ((0, ())))) else none) else none)) else none)) else none)) else (Option.bind (fn29 (-429496729600, 429496729600, [x.fst.snd.snd.snd.fst], ())) fun v23 => (bif !v23.fst then some ((40, ())) else (bif decide (List.length x.fst.snd.snd.snd.snd.fst = List.length x.fst.snd.snd.snd.snd.fst) then (Option.bind (fn30 (x.fst.snd.snd.snd.snd.fst, ())) fun v24 => (bif decide (List.length x.fst.snd.snd.snd.snd.snd.fst = List.length x.fst.snd.snd.snd.snd.snd.fst) then (Option.bind (fn30 x.fst.snd.snd.snd.snd.snd) fun v25 => (bif decide ((v24.length + v25.length) * Try.prog.types[22].bytes ≤ 140737488355328) && decide (v24.length + v25.length ≤ 9223372036854775807) then (bif decide (v24.length + v25.length = (v24 ++ v25).length) then (Option.bind (fn29 (0, 8589934592, v24 ++ v25, ())) fun v26 => (bif !v26.fst then some ((40, ())) else some ((0, ())))) else none) else none)) else none)) else none)))))) N0 0)
theorem eq11 (N0 : Nat) (x : Sh.Ts [MakeSh]) : codeLaw Try.prog env11 200 (L11 N0) Try.f11 c11 [MakeSh] [.int .i64] x = law11 N0 x := by
  have h : codeLaw Try.prog env11 200 (L11 N0) Try.f11 c11 [MakeSh] [.int .i64] x = (ln11o0 N0 N0 (t11o0 N0 x 0) (h11o0 N0 x 0) (rk11o0 N0)) := by kernel_rfl
  rw [h]
  unfold law11
  simp only [decide_self, decide_true, Nat.zero_add, Bool.and_true, Bool.true_and, cond_true, leq11o0, rest11o0o0, rest11o0o1]
noncomputable def fn11 (x : (MakeT × Unit)) : Option ((Int × Unit)) := law11 (10 ^ 30) x
theorem reads11 : Reads Try.prog 11 [MakeSh] [.int .i64] fn11 := (Reads.of_code mixed (fn := Try.f11) (c := c11) Try.func11 (by kernel_rfl) (by kernel_rfl) env11 200 (L11_fit _) (by kernel_rfl)).to (eq11 _)
noncomputable def s11 : Summ Try.prog := reads11.summ
/- chicane/chicaneref46.in -/
noncomputable def c32 : Code := (Try.f32.body.getD .skip)
noncomputable def env32 : Env Try.prog := []
noncomputable def L32 : Loops Try.prog := []
theorem L32_fit : (L32).fit c32 := Loops.fit_nil
noncomputable def law32 (x : (Int × Int × Int × Unit)) : Option ((Bool × Unit)) := (bif decide (x.fst ≥ x.snd.fst) then some ((decide (x.fst ≤ x.snd.snd.fst), ())) else some ((false, ())))
theorem eq32 (x : Sh.Ts [Sh.int IntKind.i64, Sh.int IntKind.i64, Sh.int IntKind.i64]) : codeLaw Try.prog env32 200 (L32) Try.f32 c32 [.int .i64, .int .i64, .int .i64] [.bool] x = law32 x := by kernel_rfl
noncomputable def fn32 (x : (Int × Int × Int × Unit)) : Option ((Bool × Unit)) := law32 x
theorem reads32 : Reads Try.prog 32 [.int .i64, .int .i64, .int .i64] [.bool] fn32 := (Reads.of_code mixed (fn := Try.f32) (c := c32) Try.func32 (by kernel_rfl) (by kernel_rfl) env32 200 (L32_fit) (by kernel_rfl)).to (eq32)
noncomputable def s32 : Summ Try.prog := reads32.summ
/- chicane/chicaneref46.factors -/
noncomputable def c33 : Code := (Try.f33.body.getD .skip)
noncomputable def env33 : Env Try.prog := [s32]
noncomputable def b33o0 : Code := ((kid ((subAt c33 [0, 1, 0, 1]).getD .skip) 0).getD .skip)
noncomputable def kx33o0 : Exit → List Nat | .ret => [2] | _ => []
noncomputable def Li33o0 (N0 : Nat) : Loops Try.prog := []
noncomputable def ls33o0 (N0 : Nat) : LSumm Try.prog := loopSumm mixed env33 200 (Li33o0 N0) b33o0 (Loops.fit_nil) [0, 3] kx33o0 (N0)
noncomputable def ln33o0 {β : Type} (N0 : Nat) (n : Nat) (t : List AV) (h : Heap) (K : Exit → List AV → Heap → Option β) : Option β := loopN Try.prog env33 (Sh.nes [.sl (DotSh)]) 200 (Li33o0 N0) b33o0 [0, 3] kx33o0 n t h K
noncomputable def L33 (N0 : Nat) : Loops Try.prog := [([0, 1, 0, 1], ls33o0 N0)]
theorem L33_fit (N0 : Nat) : (L33 N0).fit c33 := Loops.fit_cons (by kernel_rfl) (Loops.fit_nil)
noncomputable def K33 : Exit → List AV → Heap → Option (Sh.Ts [.bool]) := fun e t h => outK (P := Try.prog) Try.f33 [.bool] e t h
noncomputable def rk33o0 (N0 : Nat) : Exit → List AV → Heap → Option (Sh.Ts [.bool]) := (blkK 0 (seqK Try.prog env33 (Sh.nes [.sl (DotSh)]) 198 (L33 N0) [1, 1] ((subAt c33 [1, 1]).getD .skip) K33))
noncomputable def t33o0 (N0 : Nat) (x : Sh.Ts [DotSh.sl]) (i5 : Int) : List AV := [AV.slc 0 0 (List.length x.fst) Cap.low, AV.any, AV.any, AV.val (Value.int IntKind.i64 i5), AV.any, AV.any, AV.any, AV.any, AV.any, AV.any, AV.any, AV.any, AV.any, AV.any, AV.any, AV.any, AV.any]
noncomputable def h33o0 (N0 : Nat) (x : Sh.Ts [DotSh.sl]) (i5 : Int) : Heap := [Ent.live (Blk.mk (Cells.arr (Sh.st [Sh.int IntKind.i64, Sh.int IntKind.i64]) x.fst) false none)]
noncomputable def tx33o0o0 (N0 : Nat) (x : Sh.Ts [DotSh.sl]) : List AV := [AV.any, AV.any, AV.val (Value.bool false), AV.any, AV.any, AV.any, AV.any, AV.any, AV.any, AV.any, AV.any, AV.any, AV.any, AV.any, AV.any, AV.any, AV.any]
noncomputable def hx33o0o0 (N0 : Nat) (x : Sh.Ts [DotSh.sl]) : Heap := [Ent.live (Blk.mk (Cells.arr (Sh.st [Sh.int IntKind.i64, Sh.int IntKind.i64]) x.fst) false none)]
noncomputable def tx33o0o1 (N0 : Nat) (x : Sh.Ts [DotSh.sl]) : List AV := [AV.any, AV.any, AV.any, AV.any, AV.any, AV.any, AV.any, AV.any, AV.any, AV.any, AV.any, AV.any, AV.any, AV.any, AV.any, AV.any, AV.any]
noncomputable def hx33o0o1 (N0 : Nat) (x : Sh.Ts [DotSh.sl]) : Heap := [Ent.live (Blk.mk (Cells.arr (Sh.st [Sh.int IntKind.i64, Sh.int IntKind.i64]) x.fst) false none)]
noncomputable def law33o0 {β : Type} (N0 : Nat) (x : ((List DotT) × Unit)) (k0 : Option β) (k1 : Option β) : Nat → Int → Option β
  | 0, _ => none
  | n + 1, i5 => (bif decide (i5 < (↑(List.length x.fst) : Int)) then (bif decide (0 ≤ i5) && decide (i5 < (↑(List.length x.fst) : Int)) then (Option.bind x.fst[i5.toNat]? fun v6 => (Option.bind (fn32 (v6.snd.fst, 0, 8589934592, ())) fun v7 => (bif !v7.fst then k0 else law33o0 N0 x k0 k1 n (IntKind.i64.wrap (i5 + 1))))) else none) else k1)
theorem leq33o0 {β : Type} (N0 : Nat) (x : Sh.Ts [DotSh.sl]) (K : Exit → List AV → Heap → Option β) : ∀ (n : Nat) (i5 : Int), ln33o0 N0 n (t33o0 N0 x i5) (h33o0 N0 x i5) K = law33o0 N0 x (K (Exit.ret) (tx33o0o0 N0 x) (hx33o0o0 N0 x)) (K (Exit.exit 0) (tx33o0o1 N0 x) (hx33o0o1 N0 x)) n i5
  | 0, _ => rfl
  | n + 1, i5 => by
    have h : ln33o0 N0 (n + 1) (t33o0 N0 x i5) (h33o0 N0 x i5) K = (bif decide (i5 < (↑(List.length x.fst) : Int)) then (bif decide (0 ≤ i5) && decide (i5 < (↑(List.length x.fst) : Int)) then (Option.bind x.fst[i5.toNat]? fun v6 => (Option.bind (fn32 (v6.snd.fst, 0, 8589934592, ())) fun v7 => (bif !v7.fst then K (Exit.ret) (tx33o0o0 N0 x) (hx33o0o0 N0 x) else ln33o0 N0 n (t33o0 N0 x (IntKind.i64.wrap (i5 + 1))) (h33o0 N0 x (IntKind.i64.wrap (i5 + 1))) K))) else none) else K (Exit.exit 0) (tx33o0o1 N0 x) (hx33o0o1 N0 x)) := by kernel_rfl
    rw [h]
    simp only [decide_self, decide_true, Nat.zero_add, Bool.and_true, Bool.true_and, cond_true, law33o0, leq33o0 N0 x K n]
theorem rest33o0o0 (N0 : Nat) (x : Sh.Ts [DotSh.sl]) : rk33o0 N0 (Exit.ret) (tx33o0o0 N0 x) (hx33o0o0 N0 x) = some ((false, ())) := by kernel_rfl
theorem rest33o0o1 (N0 : Nat) (x : Sh.Ts [DotSh.sl]) : rk33o0 N0 (Exit.exit 0) (tx33o0o1 N0 x) (hx33o0o1 N0 x) = some ((true, ())) := by kernel_rfl
noncomputable def law33 (N0 : Nat) (x : ((List DotT) × Unit)) : Option ((Bool × Unit)) := (law33o0 N0 x (some ((false, ()))) (some ((true, ()))) N0 0)
theorem eq33 (N0 : Nat) (x : Sh.Ts [DotSh.sl]) : codeLaw Try.prog env33 200 (L33 N0) Try.f33 c33 [.sl (DotSh)] [.bool] x = law33 N0 x := by
  have h : codeLaw Try.prog env33 200 (L33 N0) Try.f33 c33 [.sl (DotSh)] [.bool] x = (ln33o0 N0 N0 (t33o0 N0 x 0) (h33o0 N0 x 0) (rk33o0 N0)) := by kernel_rfl
  rw [h]
  unfold law33
  simp only [decide_self, decide_true, Nat.zero_add, Bool.and_true, Bool.true_and, cond_true, leq33o0, rest33o0o0, rest33o0o1]
noncomputable def fn33 (x : ((List DotT) × Unit)) : Option ((Bool × Unit)) := law33 (10 ^ 30) x
theorem reads33 : Reads Try.prog 33 [.sl (DotSh)] [.bool] fn33 := (Reads.of_code mixed (fn := Try.f33) (c := c33) Try.func33 (by kernel_rfl) (by kernel_rfl) env33 200 (L33_fit _) (by kernel_rfl)).to (eq33 _)
noncomputable def s33 : Summ Try.prog := reads33.summ
/- chicane/chicaneref46.Right -/
noncomputable def c12 : Code := (Try.f12.body.getD .skip)
noncomputable def env12 : Env Try.prog := [s31, s32, s33]
noncomputable def L12 : Loops Try.prog := []
theorem L12_fit : (L12).fit c12 := Loops.fit_nil
noncomputable def law12 (x : (KT × Unit)) : Option ((Int × Unit)) := (Option.bind (fn31 (x.fst.snd.snd.snd.snd.fst, ())) fun v0 => (bif v0.fst == 0 then (Option.bind (fn31 x.fst.snd.snd.snd.snd.snd) fun v1 => (bif v1.fst != 0 then some ((v1.fst, ())) else (Option.bind (fn32 (x.fst.fst, 0, 4294967296, ())) fun v2 => (bif !v2.fst then some ((40, ())) else (Option.bind (fn32 (x.fst.snd.fst, 0, 4294967296, ())) fun v3 => (bif !v3.fst then some ((40, ())) else (Option.bind (fn32 (x.fst.snd.snd.fst, 0, 4294967296, ())) fun v4 => (bif !v4.fst then some ((40, ())) else (Option.bind (fn32 (x.fst.snd.snd.snd.fst, -429496729600, 429496729600, ())) fun v5 => (bif !v5.fst then some ((40, ())) else (Option.bind (fn33 (x.fst.snd.snd.snd.snd.fst, ())) fun v6 => (bif !v6.fst then some ((40, ())) else (Option.bind (fn33 x.fst.snd.snd.snd.snd.snd) fun v7 => (bif !v7.fst then some ((40, ())) else some ((0, ())))))))))))))))) else (bif v0.fst != 0 then some ((v0.fst, ())) else (Option.bind (fn32 (x.fst.fst, 0, 4294967296, ())) fun v8 => (bif !v8.fst then some ((40, ())) else (Option.bind (fn32 (x.fst.snd.fst, 0, 4294967296, ())) fun v9 => (bif !v9.fst then some ((40, ())) else (Option.bind (fn32 (x.fst.snd.snd.fst, 0, 4294967296, ())) fun v10 => (bif !v10.fst then some ((40, ())) else (Option.bind (fn32 (x.fst.snd.snd.snd.fst, -429496729600, 429496729600, ())) fun v11 => (bif !v11.fst then some ((40, ())) else (Option.bind (fn33 (x.fst.snd.snd.snd.snd.fst, ())) fun v12 => (bif !v12.fst then some ((40, ())) else (Option.bind (fn33 x.fst.snd.snd.snd.snd.snd) fun v13 => (bif !v13.fst then some ((40, ())) else some ((0, ())))))))))))))))))
theorem eq12 (x : Sh.Ts [KSh]) : codeLaw Try.prog env12 200 (L12) Try.f12 c12 [KSh] [.int .i64] x = law12 x := by
  have h : codeLaw Try.prog env12 200 (L12) Try.f12 c12 [KSh] [.int .i64] x = (bif decide (List.length x.fst.snd.snd.snd.snd.fst = List.length x.fst.snd.snd.snd.snd.fst) && true then (Option.bind (fn31 (x.fst.snd.snd.snd.snd.fst, ())) fun v0 => (bif v0.fst == 0 then (bif decide (List.length x.fst.snd.snd.snd.snd.snd.fst = List.length x.fst.snd.snd.snd.snd.snd.fst) && true then (Option.bind (fn31 x.fst.snd.snd.snd.snd.snd) fun v1 => (bif v1.fst != 0 then some ((v1.fst, ())) else (Option.bind (fn32 (x.fst.fst, 0, 4294967296, ())) fun v2 => (bif !v2.fst then some ((40, ())) else (Option.bind (fn32 (x.fst.snd.fst, 0, 4294967296, ())) fun v3 => (bif !v3.fst then some ((40, ())) else (Option.bind (fn32 (x.fst.snd.snd.fst, 0, 4294967296, ())) fun v4 => (bif !v4.fst then some ((40, ())) else (Option.bind (fn32 (x.fst.snd.snd.snd.fst, -429496729600, 429496729600, ())) fun v5 => (bif !v5.fst then some ((40, ())) else (bif decide (List.length x.fst.snd.snd.snd.snd.fst = List.length x.fst.snd.snd.snd.snd.fst) && true then (Option.bind (fn33 (x.fst.snd.snd.snd.snd.fst, ())) fun v6 => (bif !v6.fst then some ((40, ())) else (bif decide (List.length x.fst.snd.snd.snd.snd.snd.fst = List.length x.fst.snd.snd.snd.snd.snd.fst) && true then (Option.bind (fn33 x.fst.snd.snd.snd.snd.snd) fun v7 => (bif !v7.fst then some ((40, ())) else some ((0, ())))) else none))) else none))))))))))) else none) else (bif v0.fst != 0 then some ((v0.fst, ())) else (Option.bind (fn32 (x.fst.fst, 0, 4294967296, ())) fun v8 => (bif !v8.fst then some ((40, ())) else (Option.bind (fn32 (x.fst.snd.fst, 0, 4294967296, ())) fun v9 => (bif !v9.fst then some ((40, ())) else (Option.bind (fn32 (x.fst.snd.snd.fst, 0, 4294967296, ())) fun v10 => (bif !v10.fst then some ((40, ())) else (Option.bind (fn32 (x.fst.snd.snd.snd.fst, -429496729600, 429496729600, ())) fun v11 => (bif !v11.fst then some ((40, ())) else (bif decide (List.length x.fst.snd.snd.snd.snd.fst = List.length x.fst.snd.snd.snd.snd.fst) && true then (Option.bind (fn33 (x.fst.snd.snd.snd.snd.fst, ())) fun v12 => (bif !v12.fst then some ((40, ())) else (bif decide (List.length x.fst.snd.snd.snd.snd.snd.fst = List.length x.fst.snd.snd.snd.snd.snd.fst) && true then (Option.bind (fn33 x.fst.snd.snd.snd.snd.snd) fun v13 => (bif !v13.fst then some ((40, ())) else some ((0, ())))) else none))) else none)))))))))))) else none) := by kernel_rfl
  rw [h]
  unfold law12
  simp only [decide_self, decide_true, Nat.zero_add, Bool.and_true, Bool.true_and, cond_true]
noncomputable def fn12 (x : (KT × Unit)) : Option ((Int × Unit)) := law12 x
theorem reads12 : Reads Try.prog 12 [KSh] [.int .i64] fn12 := (Reads.of_code mixed (fn := Try.f12) (c := c12) Try.func12 (by kernel_rfl) (by kernel_rfl) env12 200 (L12_fit) (by kernel_rfl)).to (eq12)
noncomputable def s12 : Summ Try.prog := reads12.summ
/- chicane/wear.Grip -/
noncomputable def c13 : Code := (Try.f13.body.getD .skip)
noncomputable def env13 : Env Try.prog := [s34, s21]
noncomputable def L13 : Loops Try.prog := []
theorem L13_fit : (L13).fit c13 := Loops.fit_nil
noncomputable def law13 (m : MT) (x : (MakeT × TyreT × Unit)) : Option (MT × (Int × Unit)) := (Option.bind (fn34 m (x.fst.snd.snd.snd.snd.fst, x.snd.fst.fst, ())) fun v0 => (Option.bind (fn34 v0.fst (x.fst.snd.snd.snd.snd.snd.fst, x.snd.fst.snd)) fun v1 => (Option.bind (fn21 v1.fst (v0.snd.fst, [v1.snd.fst], ())) fun v2 => some (((v2.fst.fst, ()), v2.snd.fst, ())))))
theorem eq13 (m : MSh.T) (x : Sh.Ts [MakeSh, TyreSh]) : codeLawM Try.prog env13 200 (L13) Try.f13 c13 (MSh) [MakeSh, TyreSh] [.int .i64] m x = law13 m x := by
  have h : codeLawM Try.prog env13 200 (L13) Try.f13 c13 (MSh) [MakeSh, TyreSh] [.int .i64] m x = (bif decide (List.length x.fst.snd.snd.snd.snd.fst = List.length x.fst.snd.snd.snd.snd.fst) && true then (Option.bind (fn34 m (x.fst.snd.snd.snd.snd.fst, x.snd.fst.fst, ())) fun v0 => (bif decide (List.length x.fst.snd.snd.snd.snd.snd.fst = List.length x.fst.snd.snd.snd.snd.snd.fst) && true then (Option.bind (fn34 v0.fst (x.fst.snd.snd.snd.snd.snd.fst, x.snd.fst.snd)) fun v1 => (Option.bind (fn21 v1.fst (v0.snd.fst, [v1.snd.fst], ())) fun v2 => some (((v2.fst.fst, ()), v2.snd.fst, ())))) else none)) else none) := by kernel_rfl
  rw [h]
  unfold law13
  simp only [decide_self, decide_true, Nat.zero_add, Bool.and_true, Bool.true_and, cond_true]
noncomputable def fn13 (m : MT) (x : (MakeT × TyreT × Unit)) : Option (MT × (Int × Unit)) := law13 m x
theorem acts13 : Acts Try.prog 13 (MSh) [MakeSh, TyreSh] [.int .i64] fn13 := (Acts.of_code mixed (fn := Try.f13) (c := c13) Try.func13 (by kernel_rfl) (by kernel_rfl) env13 200 (L13_fit) (by kernel_rfl) (by kernel_rfl)).to (eq13)
noncomputable def s13 : Summ Try.prog := acts13.summ (by kernel_rfl)
/- chicane/chicaneref46.Grip -/
noncomputable def c14 : Code := (Try.f14.body.getD .skip)
noncomputable def env14 : Env Try.prog := [s35, s25]
noncomputable def L14 : Loops Try.prog := []
theorem L14_fit : (L14).fit c14 := Loops.fit_nil
noncomputable def law14 (m : Mx1T) (x : (KT × TT × Unit)) : Option (Mx1T × (Int × Unit)) := (Option.bind (fn35 m (x.fst.snd.snd.snd.snd.fst, x.snd.fst.fst, ())) fun v0 => (Option.bind (fn35 v0.fst (x.fst.snd.snd.snd.snd.snd.fst, x.snd.fst.snd)) fun v1 => (Option.bind (fn25 v1.fst (v0.snd.fst, v1.snd)) fun v2 => some (((v2.fst.fst, ()), v2.snd.fst, ())))))
theorem eq14 (m : Mx1Sh.T) (x : Sh.Ts [KSh, TSh]) : codeLawM Try.prog env14 200 (L14) Try.f14 c14 (Mx1Sh) [KSh, TSh] [.int .i64] m x = law14 m x := by
  have h : codeLawM Try.prog env14 200 (L14) Try.f14 c14 (Mx1Sh) [KSh, TSh] [.int .i64] m x = (bif decide (List.length x.fst.snd.snd.snd.snd.fst = List.length x.fst.snd.snd.snd.snd.fst) && true then (Option.bind (fn35 m (x.fst.snd.snd.snd.snd.fst, x.snd.fst.fst, ())) fun v0 => (bif decide (List.length x.fst.snd.snd.snd.snd.snd.fst = List.length x.fst.snd.snd.snd.snd.snd.fst) && true then (Option.bind (fn35 v0.fst (x.fst.snd.snd.snd.snd.snd.fst, x.snd.fst.snd)) fun v1 => (Option.bind (fn25 v1.fst (v0.snd.fst, v1.snd)) fun v2 => some (((v2.fst.fst, ()), v2.snd.fst, ())))) else none)) else none) := by kernel_rfl
  rw [h]
  unfold law14
  simp only [decide_self, decide_true, Nat.zero_add, Bool.and_true, Bool.true_and, cond_true]
noncomputable def fn14 (m : Mx1T) (x : (KT × TT × Unit)) : Option (Mx1T × (Int × Unit)) := law14 m x
theorem acts14 : Acts Try.prog 14 (Mx1Sh) [KSh, TSh] [.int .i64] fn14 := (Acts.of_code mixed (fn := Try.f14) (c := c14) Try.func14 (by kernel_rfl) (by kernel_rfl) env14 200 (L14_fit) (by kernel_rfl) (by kernel_rfl)).to (eq14)
noncomputable def s14 : Summ Try.prog := acts14.summ (by kernel_rfl)
/- chicane/chicanelaw46.sample -/
noncomputable def c36 : Code := (Try.f36.body.getD .skip)
noncomputable def env36 : Env Try.prog := []
noncomputable def s36 : Summ Try.prog := inlSumm allRw mixed 36 Try.f36 c36 Try.func36 (by kernel_rfl) (by kernel_rfl) env36 200 [] Loops.fit_nil
/- chicane/wear.Work -/
noncomputable def c16 : Code := (Try.f16.body.getD .skip)
noncomputable def env16 : Env Try.prog := [s21, s37, s20]
noncomputable def L16 : Loops Try.prog := []
theorem L16_fit : (L16).fit c16 := Loops.fit_nil
noncomputable def law16 (m : MT) (x : (Int × Int × Int × Int × Int × Unit)) : Option (MT × (Int × Unit)) := (Option.bind (fn21 m (x.fst, [x.snd.snd.fst], ())) fun v0 => (Option.bind (fn37 v0.fst v0.snd) fun v1 => (Option.bind (fn21 v1.fst (x.snd.fst, [x.snd.snd.snd.fst], ())) fun v2 => (Option.bind (fn37 v2.fst v2.snd) fun v3 => (Option.bind (fn20 v3.fst (v1.snd.fst, v3.snd)) fun v4 => (Option.bind (fn21 v4.fst (v4.snd.fst, [x.snd.snd.snd.snd.fst], ())) fun v5 => some (((v5.fst.fst, ()), v5.snd.fst, ()))))))))
theorem eq16 (m : MSh.T) (x : Sh.Ts [Sh.int IntKind.i64, Sh.int IntKind.i64, Sh.int IntKind.i64, Sh.int IntKind.i64, Sh.int IntKind.i64]) : codeLawM Try.prog env16 200 (L16) Try.f16 c16 (MSh) [.int .i64, .int .i64, .int .i64, .int .i64, .int .i64] [.int .i64] m x = law16 m x := by kernel_rfl
noncomputable def fn16 (m : MT) (x : (Int × Int × Int × Int × Int × Unit)) : Option (MT × (Int × Unit)) := law16 m x
theorem acts16 : Acts Try.prog 16 (MSh) [.int .i64, .int .i64, .int .i64, .int .i64, .int .i64] [.int .i64] fn16 := (Acts.of_code mixed (fn := Try.f16) (c := c16) Try.func16 (by kernel_rfl) (by kernel_rfl) env16 200 (L16_fit) (by kernel_rfl) (by kernel_rfl)).to (eq16)
noncomputable def s16 : Summ Try.prog := acts16.summ (by kernel_rfl)
/- chicane/chicanelaw46.awake -/
noncomputable def c15 : Code := (Try.f15.body.getD .skip)
noncomputable def env15 : Env Try.prog := [s36, s8, s16, s13, s11]
noncomputable def fn15 (x : (Unit)) : Option ((Bool × Unit)) := some (true, ())
theorem eq15 (x : Sh.Ts []) : codeLaw Try.prog env15 200 [] Try.f15 c15 [] [.bool] x = fn15 x := by kernel_rfl
theorem reads15 : Reads Try.prog 15 [] [.bool] fn15 := (Reads.of_code mixed (fn := Try.f15) (c := c15) Try.func15 (by kernel_rfl) (by kernel_rfl) env15 200 Loops.fit_nil (by kernel_rfl)).to eq15
noncomputable def s15 : Summ Try.prog := reads15.summ
/- chicane/chicanelaw46.WearTurn -/
noncomputable def c3 : Code := (Try.f3.body.getD .skip)
noncomputable def env3 : Env Try.prog := [s7, s8, s10, s9, s11, s12, s13, s14, s15]
noncomputable def L3 : Loops Try.prog := []
theorem L3_fit : (L3).fit c3 := Loops.fit_nil
noncomputable def law3 (x : (MakeT × TyreT × (Int × Int × Unit) × Unit)) : Option ((Bool × Unit)) := (Option.bind (fn7 (x.fst, ())) fun v0 => (bif !v0.fst then some ((true, ())) else (Option.bind (fn8 (false, ()) (x.fst, x.snd.fst, x.snd.snd.fst)) fun v1 => (Option.bind (fn9 (false, ()) (x.fst, x.snd.fst, x.snd.snd.fst)) fun v2 => (Option.bind (fn11 (x.fst, ())) fun v3 => (Option.bind (fn12 (x.fst, ())) fun v4 => (bif v3.fst != v4.fst then some ((false, ())) else (bif v1.snd.fst.fst != v2.snd.fst.fst then some ((false, ())) else (bif v1.snd.fst.snd.fst != v2.snd.fst.snd.fst then some ((false, ())) else (bif !v1.fst.fst == v2.fst.fst then some ((false, ())) else (Option.bind (fn13 v1.fst (x.fst, x.snd.fst, ())) fun v5 => (Option.bind (fn14 v2.fst (x.fst, x.snd.fst, ())) fun v6 => (bif v5.snd.fst == v6.snd.fst then (bif v5.fst.fst == v6.fst.fst then some ((true, ())) else some ((false, ()))) else some ((false, ())))))))))))))))
theorem eq3 (x : Sh.Ts [MakeSh, TyreSh, Sh.st [Sh.int IntKind.i64, Sh.int IntKind.i64]]) : codeLaw Try.prog env3 200 (L3) Try.f3 c3 [MakeSh, TyreSh, .st [.int .i64, .int .i64]] [.bool] x = law3 x := by
  have h : codeLaw Try.prog env3 200 (L3) Try.f3 c3 [MakeSh, TyreSh, .st [.int .i64, .int .i64]] [.bool] x = (bif decide (List.length x.fst.snd.snd.snd.snd.fst = List.length x.fst.snd.snd.snd.snd.fst) && (decide (List.length x.fst.snd.snd.snd.snd.snd.fst = List.length x.fst.snd.snd.snd.snd.snd.fst) && true) && true then (Option.bind (fn7 (x.fst, ())) fun v0 => (bif !v0.fst then some ((true, ())) else (bif decide (List.length x.fst.snd.snd.snd.snd.fst = List.length x.fst.snd.snd.snd.snd.fst) && (decide (List.length x.fst.snd.snd.snd.snd.snd.fst = List.length x.fst.snd.snd.snd.snd.snd.fst) && true) && true then (Option.bind (fn8 (false, ()) (x.fst, x.snd.fst, x.snd.snd.fst)) fun v1 => (bif decide (List.length x.fst.snd.snd.snd.snd.fst = List.length x.fst.snd.snd.snd.snd.fst) && (decide (List.length x.fst.snd.snd.snd.snd.snd.fst = List.length x.fst.snd.snd.snd.snd.snd.fst) && true) && true then (Option.bind (fn9 (false, ()) (x.fst, x.snd.fst, x.snd.snd.fst)) fun v2 => (bif decide (List.length x.fst.snd.snd.snd.snd.fst = List.length x.fst.snd.snd.snd.snd.fst) && (decide (List.length x.fst.snd.snd.snd.snd.snd.fst = List.length x.fst.snd.snd.snd.snd.snd.fst) && true) && true then (Option.bind (fn11 (x.fst, ())) fun v3 => (bif decide (List.length x.fst.snd.snd.snd.snd.fst = List.length x.fst.snd.snd.snd.snd.fst) && (decide (List.length x.fst.snd.snd.snd.snd.snd.fst = List.length x.fst.snd.snd.snd.snd.snd.fst) && true) && true then (Option.bind (fn12 (x.fst, ())) fun v4 => (bif v3.fst != v4.fst then some ((false, ())) else (bif v1.snd.fst.fst != v2.snd.fst.fst then some ((false, ())) else (bif v1.snd.fst.snd.fst != v2.snd.fst.snd.fst then some ((false, ())) else (bif !v1.fst.fst == v2.fst.fst then some ((false, ())) else (bif decide (List.length x.fst.snd.snd.snd.snd.fst = List.length x.fst.snd.snd.snd.snd.fst) && (decide (List.length x.fst.snd.snd.snd.snd.snd.fst = List.length x.fst.snd.snd.snd.snd.snd.fst) && true) && true then (Option.bind (fn13 v1.fst (x.fst, x.snd.fst, ())) fun v5 => (bif decide (List.length x.fst.snd.snd.snd.snd.fst = List.length x.fst.snd.snd.snd.snd.fst) && (decide (List.length x.fst.snd.snd.snd.snd.snd.fst = List.length x.fst.snd.snd.snd.snd.snd.fst) && true) && true then (Option.bind (fn14 v2.fst (x.fst, x.snd.fst, ())) fun v6 => (bif v5.snd.fst == v6.snd.fst then (bif v5.fst.fst == v6.fst.fst then some ((true, ())) else some ((false, ()))) else some ((false, ())))) else none)) else none)))))) else none)) else none)) else none)) else none))) else none) := by kernel_rfl
  rw [h]
  unfold law3
  simp only [decide_self, decide_true, Nat.zero_add, Bool.and_true, Bool.true_and, cond_true]
noncomputable def fn3 (x : (MakeT × TyreT × (Int × Int × Unit) × Unit)) : Option ((Bool × Unit)) := law3 x
theorem reads3 : Reads Try.prog 3 [MakeSh, TyreSh, .st [.int .i64, .int .i64]] [.bool] fn3 := (Reads.of_code mixed (fn := Try.f3) (c := c3) Try.func3 (by kernel_rfl) (by kernel_rfl) env3 200 (L3_fit) (by kernel_rfl)).to (eq3)
noncomputable def s3 : Summ Try.prog := reads3.summ
/- chicane/chicaneref46.Work -/
noncomputable def c17 : Code := (Try.f17.body.getD .skip)
noncomputable def env17 : Env Try.prog := [s25, s38, s24]
noncomputable def L17 : Loops Try.prog := []
theorem L17_fit : (L17).fit c17 := Loops.fit_nil
noncomputable def law17 (m : Mx1T) (x : (Int × Int × Int × Int × Int × Unit)) : Option (Mx1T × (Int × Unit)) := (Option.bind (fn25 m (x.fst, x.snd.snd.fst, ())) fun v0 => (Option.bind (fn38 v0.fst v0.snd) fun v1 => (Option.bind (fn25 v1.fst (x.snd.fst, x.snd.snd.snd.fst, ())) fun v2 => (Option.bind (fn38 v2.fst v2.snd) fun v3 => (Option.bind (fn24 v3.fst (v1.snd.fst, v3.snd)) fun v4 => (Option.bind (fn25 v4.fst (v4.snd.fst, x.snd.snd.snd.snd)) fun v5 => some (((v5.fst.fst, ()), v5.snd.fst, ()))))))))
theorem eq17 (m : Mx1Sh.T) (x : Sh.Ts [Sh.int IntKind.i64, Sh.int IntKind.i64, Sh.int IntKind.i64, Sh.int IntKind.i64, Sh.int IntKind.i64]) : codeLawM Try.prog env17 200 (L17) Try.f17 c17 (Mx1Sh) [.int .i64, .int .i64, .int .i64, .int .i64, .int .i64] [.int .i64] m x = law17 m x := by kernel_rfl
noncomputable def fn17 (m : Mx1T) (x : (Int × Int × Int × Int × Int × Unit)) : Option (Mx1T × (Int × Unit)) := law17 m x
theorem acts17 : Acts Try.prog 17 (Mx1Sh) [.int .i64, .int .i64, .int .i64, .int .i64, .int .i64] [.int .i64] fn17 := (Acts.of_code mixed (fn := Try.f17) (c := c17) Try.func17 (by kernel_rfl) (by kernel_rfl) env17 200 (L17_fit) (by kernel_rfl) (by kernel_rfl)).to (eq17)
noncomputable def s17 : Summ Try.prog := acts17.summ (by kernel_rfl)
/- chicane/chicanelaw46.WearWork -/
noncomputable def c4 : Code := (Try.f4.body.getD .skip)
noncomputable def env4 : Env Try.prog := [s16, s17, s15]
noncomputable def L4 : Loops Try.prog := []
theorem L4_fit : (L4).fit c4 := Loops.fit_nil
noncomputable def law4 (x : ((Int × Int × Unit) × (Int × Int × Unit) × Int × Unit)) : Option ((Bool × Unit)) := (Option.bind (fn16 (false, ()) (x.fst.fst, x.fst.snd.fst, x.snd.fst.fst, x.snd.fst.snd.fst, x.snd.snd)) fun v0 => (Option.bind (fn17 (false, ()) (x.fst.fst, x.fst.snd.fst, x.snd.fst.fst, x.snd.fst.snd.fst, x.snd.snd)) fun v1 => (bif v0.snd.fst == v1.snd.fst then (bif v0.fst.fst == v1.fst.fst then some ((true, ())) else some ((false, ()))) else some ((false, ())))))
theorem eq4 (x : Sh.Ts [Sh.st [Sh.int IntKind.i64, Sh.int IntKind.i64], Sh.st [Sh.int IntKind.i64, Sh.int IntKind.i64], Sh.int IntKind.i64]) : codeLaw Try.prog env4 200 (L4) Try.f4 c4 [.st [.int .i64, .int .i64], .st [.int .i64, .int .i64], .int .i64] [.bool] x = law4 x := by kernel_rfl
noncomputable def fn4 (x : ((Int × Int × Unit) × (Int × Int × Unit) × Int × Unit)) : Option ((Bool × Unit)) := law4 x
theorem reads4 : Reads Try.prog 4 [.st [.int .i64, .int .i64], .st [.int .i64, .int .i64], .int .i64] [.bool] fn4 := (Reads.of_code mixed (fn := Try.f4) (c := c4) Try.func4 (by kernel_rfl) (by kernel_rfl) env4 200 (L4_fit) (by kernel_rfl)).to (eq4)
noncomputable def s4 : Summ Try.prog := reads4.summ
/- chicane/chicanelaw46.in -/
noncomputable def c19 : Code := (Try.f19.body.getD .skip)
noncomputable def env19 : Env Try.prog := []
noncomputable def L19 : Loops Try.prog := []
theorem L19_fit : (L19).fit c19 := Loops.fit_nil
noncomputable def law19 (x : (Int × Int × Int × Unit)) : Option ((Bool × Unit)) := (bif decide (x.fst ≥ x.snd.fst) then some ((decide (x.fst ≤ x.snd.snd.fst), ())) else some ((false, ())))
theorem eq19 (x : Sh.Ts [Sh.int IntKind.i64, Sh.int IntKind.i64, Sh.int IntKind.i64]) : codeLaw Try.prog env19 200 (L19) Try.f19 c19 [.int .i64, .int .i64, .int .i64] [.bool] x = law19 x := by kernel_rfl
noncomputable def fn19 (x : (Int × Int × Int × Unit)) : Option ((Bool × Unit)) := law19 x
theorem reads19 : Reads Try.prog 19 [.int .i64, .int .i64, .int .i64] [.bool] fn19 := (Reads.of_code mixed (fn := Try.f19) (c := c19) Try.func19 (by kernel_rfl) (by kernel_rfl) env19 200 (L19_fit) (by kernel_rfl)).to (eq19)
noncomputable def s19 : Summ Try.prog := reads19.summ
/- chicane/chicanelaw46.right -/
noncomputable def c18 : Code := (Try.f18.body.getD .skip)
noncomputable def env18 : Env Try.prog := [s11, s19]
noncomputable def L18 : Loops Try.prog := []
theorem L18_fit : (L18).fit c18 := Loops.fit_nil
noncomputable def law18 (x : (MakeT × TyreT × (Int × Int × Unit) × Unit)) : Option ((Bool × Unit)) := (Option.bind (fn11 (x.fst, ())) fun v0 => (bif v0.fst == 0 then (Option.bind (fn19 (x.snd.fst.fst, -858993459200, 8589934592000, ())) fun v1 => (bif v1.fst then (Option.bind (fn19 (x.snd.fst.snd.fst, 0, 4294967296, ())) fun v2 => (bif v2.fst then (Option.bind (fn19 (x.snd.snd.fst.fst, 0, 4503599627370496, ())) fun v3 => (bif v3.fst then (Option.bind (fn19 (x.snd.snd.fst.snd.fst, 0, 4294967296, ())) fun v4 => some ((v4.fst, ()))) else some ((false, ())))) else some ((false, ())))) else some ((false, ())))) else some ((false, ()))))
theorem eq18 (x : Sh.Ts [MakeSh, TyreSh, Sh.st [Sh.int IntKind.i64, Sh.int IntKind.i64]]) : codeLaw Try.prog env18 200 (L18) Try.f18 c18 [MakeSh, TyreSh, .st [.int .i64, .int .i64]] [.bool] x = law18 x := by
  have h : codeLaw Try.prog env18 200 (L18) Try.f18 c18 [MakeSh, TyreSh, .st [.int .i64, .int .i64]] [.bool] x = (bif decide (List.length x.fst.snd.snd.snd.snd.fst = List.length x.fst.snd.snd.snd.snd.fst) && (decide (List.length x.fst.snd.snd.snd.snd.snd.fst = List.length x.fst.snd.snd.snd.snd.snd.fst) && true) && true then (Option.bind (fn11 (x.fst, ())) fun v0 => (bif v0.fst == 0 then (Option.bind (fn19 (x.snd.fst.fst, -858993459200, 8589934592000, ())) fun v1 => (bif v1.fst then (Option.bind (fn19 (x.snd.fst.snd.fst, 0, 4294967296, ())) fun v2 => (bif v2.fst then (Option.bind (fn19 (x.snd.snd.fst.fst, 0, 4503599627370496, ())) fun v3 => (bif v3.fst then (Option.bind (fn19 (x.snd.snd.fst.snd.fst, 0, 4294967296, ())) fun v4 => some ((v4.fst, ()))) else some ((false, ())))) else some ((false, ())))) else some ((false, ())))) else some ((false, ())))) else none) := by kernel_rfl
  rw [h]
  unfold law18
  simp only [decide_self, decide_true, Nat.zero_add, Bool.and_true, Bool.true_and, cond_true]
noncomputable def fn18 (x : (MakeT × TyreT × (Int × Int × Unit) × Unit)) : Option ((Bool × Unit)) := law18 x
theorem reads18 : Reads Try.prog 18 [MakeSh, TyreSh, .st [.int .i64, .int .i64]] [.bool] fn18 := (Reads.of_code mixed (fn := Try.f18) (c := c18) Try.func18 (by kernel_rfl) (by kernel_rfl) env18 200 (L18_fit) (by kernel_rfl)).to (eq18)
noncomputable def s18 : Summ Try.prog := reads18.summ
/- chicane/chicanelaw46.WearOlder -/
noncomputable def c5 : Code := (Try.f5.body.getD .skip)
noncomputable def env5 : Env Try.prog := [s7, s18, s15, s8, s13, s19]
noncomputable def L5 : Loops Try.prog := []
theorem L5_fit : (L5).fit c5 := Loops.fit_nil
noncomputable def law5 (x : (MakeT × TyreT × (Int × Int × Unit) × Unit)) : Option ((Bool × Unit)) := (Option.bind (fn7 (x.fst, ())) fun v0 => (bif !v0.fst then some ((true, ())) else (Option.bind (fn18 x) fun v1 => (bif !v1.fst then some ((true, ())) else (Option.bind (fn8 (false, ()) (x.fst, x.snd.fst, x.snd.snd.fst)) fun v2 => (bif decide (v2.snd.fst.snd.fst ≥ x.snd.fst.snd.fst) then (Option.bind (fn18 (x.fst, v2.snd.fst, x.snd.snd)) fun v3 => (bif v3.fst then (Option.bind (fn13 v2.fst (x.fst, v2.snd)) fun v4 => (Option.bind (fn19 (v4.snd.fst, 0, 17179869184, ())) fun v5 => (bif v5.fst then (bif !v4.fst.fst then some ((true, ())) else some ((false, ()))) else some ((false, ()))))) else some ((false, ())))) else some ((false, ()))))))))
theorem eq5 (x : Sh.Ts [MakeSh, TyreSh, Sh.st [Sh.int IntKind.i64, Sh.int IntKind.i64]]) : codeLaw Try.prog env5 200 (L5) Try.f5 c5 [MakeSh, TyreSh, .st [.int .i64, .int .i64]] [.bool] x = law5 x := by
  have h : codeLaw Try.prog env5 200 (L5) Try.f5 c5 [MakeSh, TyreSh, .st [.int .i64, .int .i64]] [.bool] x = (bif decide (List.length x.fst.snd.snd.snd.snd.fst = List.length x.fst.snd.snd.snd.snd.fst) && (decide (List.length x.fst.snd.snd.snd.snd.snd.fst = List.length x.fst.snd.snd.snd.snd.snd.fst) && true) && true then (Option.bind (fn7 (x.fst, ())) fun v0 => (bif !v0.fst then some ((true, ())) else (bif decide (List.length x.fst.snd.snd.snd.snd.fst = List.length x.fst.snd.snd.snd.snd.fst) && (decide (List.length x.fst.snd.snd.snd.snd.snd.fst = List.length x.fst.snd.snd.snd.snd.snd.fst) && true) && true then (Option.bind (fn18 x) fun v1 => (bif !v1.fst then some ((true, ())) else (bif decide (List.length x.fst.snd.snd.snd.snd.fst = List.length x.fst.snd.snd.snd.snd.fst) && (decide (List.length x.fst.snd.snd.snd.snd.snd.fst = List.length x.fst.snd.snd.snd.snd.snd.fst) && true) && true then (Option.bind (fn8 (false, ()) (x.fst, x.snd.fst, x.snd.snd.fst)) fun v2 => (bif decide (v2.snd.fst.snd.fst ≥ x.snd.fst.snd.fst) then (bif decide (List.length x.fst.snd.snd.snd.snd.fst = List.length x.fst.snd.snd.snd.snd.fst) && (decide (List.length x.fst.snd.snd.snd.snd.snd.fst = List.length x.fst.snd.snd.snd.snd.snd.fst) && true) && true then (Option.bind (fn18 (x.fst, v2.snd.fst, x.snd.snd)) fun v3 => (bif v3.fst then (bif decide (List.length x.fst.snd.snd.snd.snd.fst = List.length x.fst.snd.snd.snd.snd.fst) && (decide (List.length x.fst.snd.snd.snd.snd.snd.fst = List.length x.fst.snd.snd.snd.snd.snd.fst) && true) && true then (Option.bind (fn13 v2.fst (x.fst, v2.snd)) fun v4 => (Option.bind (fn19 (v4.snd.fst, 0, 17179869184, ())) fun v5 => (bif v5.fst then (bif !v4.fst.fst then some ((true, ())) else some ((false, ()))) else some ((false, ()))))) else none) else some ((false, ())))) else none) else some ((false, ())))) else none))) else none))) else none) := by kernel_rfl
  rw [h]
  unfold law5
  simp only [decide_self, decide_true, Nat.zero_add, Bool.and_true, Bool.true_and, cond_true]
noncomputable def fn5 (x : (MakeT × TyreT × (Int × Int × Unit) × Unit)) : Option ((Bool × Unit)) := law5 x
theorem reads5 : Reads Try.prog 5 [MakeSh, TyreSh, .st [.int .i64, .int .i64]] [.bool] fn5 := (Reads.of_code mixed (fn := Try.f5) (c := c5) Try.func5 (by kernel_rfl) (by kernel_rfl) env5 200 (L5_fit) (by kernel_rfl)).to (eq5)
noncomputable def s5 : Summ Try.prog := reads5.summ
/- chicane/chicanelaw46.WearCools -/
noncomputable def c6 : Code := (Try.f6.body.getD .skip)
noncomputable def env6 : Env Try.prog := [s7, s18, s15, s8]
noncomputable def L6 : Loops Try.prog := []
theorem L6_fit : (L6).fit c6 := Loops.fit_nil
noncomputable def law6 (x : (MakeT × TyreT × Int × Unit)) : Option ((Bool × Unit)) := (Option.bind (fn7 (x.fst, ())) fun v0 => (bif !v0.fst then some ((true, ())) else (Option.bind (fn18 (x.fst, x.snd.fst, (0, x.snd.snd), ())) fun v1 => (bif !v1.fst then some ((true, ())) else (Option.bind (fn8 (false, ()) (x.fst, x.snd.fst, 0, x.snd.snd)) fun v2 => (bif v2.snd.fst.snd.fst != x.snd.fst.snd.fst then some ((false, ())) else (bif decide (x.snd.fst.fst ≥ x.fst.snd.snd.snd.fst) then (bif decide (v2.snd.fst.fst ≤ x.snd.fst.fst) then (bif decide (v2.snd.fst.fst ≥ IntKind.i64.wrap (x.fst.snd.snd.snd.fst - 1)) then some ((true, ())) else some ((false, ()))) else some ((false, ()))) else (bif decide (v2.snd.fst.fst ≥ x.snd.fst.fst) then (bif decide (v2.snd.fst.fst ≤ IntKind.i64.wrap (x.fst.snd.snd.snd.fst + 1)) then some ((true, ())) else some ((false, ()))) else some ((false, ()))))))))))
theorem eq6 (x : Sh.Ts [MakeSh, TyreSh, Sh.int IntKind.i64]) : codeLaw Try.prog env6 200 (L6) Try.f6 c6 [MakeSh, TyreSh, .int .i64] [.bool] x = law6 x := by
  have h : codeLaw Try.prog env6 200 (L6) Try.f6 c6 [MakeSh, TyreSh, .int .i64] [.bool] x = (bif decide (List.length x.fst.snd.snd.snd.snd.fst = List.length x.fst.snd.snd.snd.snd.fst) && (decide (List.length x.fst.snd.snd.snd.snd.snd.fst = List.length x.fst.snd.snd.snd.snd.snd.fst) && true) && true then (Option.bind (fn7 (x.fst, ())) fun v0 => (bif !v0.fst then some ((true, ())) else (bif decide (List.length x.fst.snd.snd.snd.snd.fst = List.length x.fst.snd.snd.snd.snd.fst) && (decide (List.length x.fst.snd.snd.snd.snd.snd.fst = List.length x.fst.snd.snd.snd.snd.snd.fst) && true) && true then (Option.bind (fn18 (x.fst, x.snd.fst, (0, x.snd.snd), ())) fun v1 => (bif !v1.fst then some ((true, ())) else (bif decide (List.length x.fst.snd.snd.snd.snd.fst = List.length x.fst.snd.snd.snd.snd.fst) && (decide (List.length x.fst.snd.snd.snd.snd.snd.fst = List.length x.fst.snd.snd.snd.snd.snd.fst) && true) && true then (Option.bind (fn8 (false, ()) (x.fst, x.snd.fst, 0, x.snd.snd)) fun v2 => (bif v2.snd.fst.snd.fst != x.snd.fst.snd.fst then some ((false, ())) else (bif decide (x.snd.fst.fst ≥ x.fst.snd.snd.snd.fst) then (bif decide (v2.snd.fst.fst ≤ x.snd.fst.fst) then (bif decide (v2.snd.fst.fst ≥ IntKind.i64.wrap (x.fst.snd.snd.snd.fst - 1)) then some ((true, ())) else some ((false, ()))) else some ((false, ()))) else (bif decide (v2.snd.fst.fst ≥ x.snd.fst.fst) then (bif decide (v2.snd.fst.fst ≤ IntKind.i64.wrap (x.fst.snd.snd.snd.fst + 1)) then some ((true, ())) else some ((false, ()))) else some ((false, ())))))) else none))) else none))) else none) := by kernel_rfl
  rw [h]
  unfold law6
  simp only [decide_self, decide_true, Nat.zero_add, Bool.and_true, Bool.true_and, cond_true]
noncomputable def fn6 (x : (MakeT × TyreT × Int × Unit)) : Option ((Bool × Unit)) := law6 x
theorem reads6 : Reads Try.prog 6 [MakeSh, TyreSh, .int .i64] [.bool] fn6 := (Reads.of_code mixed (fn := Try.f6) (c := c6) Try.func6 (by kernel_rfl) (by kernel_rfl) env6 200 (L6_fit) (by kernel_rfl)).to (eq6)
noncomputable def s6 : Summ Try.prog := reads6.summ
end Go.Proofs.Ytjikekkakfamfaa
