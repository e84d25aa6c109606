/-
  CORE 24: functions of Go's library that the model has itself: math/bits.Add64, Sub64.
-/
import Derived.Test.YtiikkepnpidilaaCore23
import Derived.Laws.Externs
set_option linter.unusedVariables false
set_option linter.unusedSimpArgs false
namespace Go.Ab

abbrev U3 : List Sh := [.int .u64, .int .u64, .int .u64]
abbrev U2 : List Sh := [.int .u64, .int .u64]
def add64Law (x : Sh.Ts U3) : Option (Sh.Ts U2) :=
  bif decide (Int.toNat x.2.2.1 ≤ 1) then some ((((Int.toNat x.1 + Int.toNat x.2.1 + Int.toNat x.2.2.1) % 18446744073709551616 : Nat) : Int), (((Int.toNat x.1 + Int.toNat x.2.1 + Int.toNat x.2.2.1) / 18446744073709551616 : Nat) : Int), ()) else none
def sub64Law (x : Sh.Ts U3) : Option (Sh.Ts U2) :=
  bif decide (Int.toNat x.2.2.1 ≤ 1) then some ((((Int.toNat x.1 + 18446744073709551616 - Int.toNat x.2.1 - Int.toNat x.2.2.1) % 18446744073709551616 : Nat) : Int), (if Int.toNat x.1 < Int.toNat x.2.1 + Int.toNat x.2.2.1 then 1 else 0 : Int), ()) else none
def sub64Entry : Array Value → Sem Value := fun args => do
  let (x, y, b) ← Extern.MathBitsCarry.three "Sub64" args
  pure (Extern.MathBitsCarry.pair ((x + Extern.MathBitsCarry.m64 - y - b) % Extern.MathBitsCarry.m64) (if x < y + b then 1 else 0))

theorem run_three {P : Program} (nm : String) (x y c : Int) (hc : c.toNat ≤ 1) (w : World) : (Extern.MathBitsCarry.three nm #[.int .u64 x, .int .u64 y, .int .u64 c]).run P w = .ok (x.toNat, y.toNat, c.toNat) w := by
  have h : Extern.MathBitsCarry.three nm #[.int .u64 x, .int .u64 y, .int .u64 c] = (do
    let c := (← asInt (.int .u64 c)).toNat
    if c > 1 then unsupported (.noEntry ("extern/math/bits." ++ nm ++ ": a carry that is neither 0 nor 1"))
    pure ((← asInt (.int .u64 x)).toNat, (← asInt (.int .u64 y)).toNat, c)) := rfl
  have hi : ∀ (k : IntKind) (v : Int) (w : World), (asInt (.int k v)).run P w = .ok v w := fun _ _ _ => rfl
  rw [h]
  simp only [Sem.run_bind, hi, Result.andThen]
  rw [if_neg (by omega)]
  simp only [Sem.run_bind, hi, Result.andThen, Sem.run_pure]

theorem Reads.of_extern {P : Program} {f : FuncId} {fn : Func} {e : Array Value → Sem Value} (hf : P.funcs[f]? = some fn) (hname : (fn.name == "runtime.NumGoroutine") = false) (hb : fn.body.isNone = true) (hn : Extern.findNext fn = none) (he : Extern.find fn = some e) {law : Sh.Ts U3 → Option (Sh.Ts U2)}
    (hl : ∀ (a b c : Int) y, law (a, b, c, ()) = some y → ∀ w, (e #[.int .u64 a, .int .u64 b, .int .u64 c]).run P w = .ok (.tuple #[.int .u64 y.1, .int .u64 y.2.1]) w) : Reads P f U3 U2 law := by
  intro x y hxy ρ w cargs hsim hargs
  obtain ⟨a, b, c, u⟩ := x
  cases u
  have hc : cargs = #[.int .u64 a, .int .u64 b, .int .u64 c] := by
    have h1 : ∀ l, VRs ρ [.val (.int .u64 a), .val (.int .u64 b), .val (.int .u64 c)] l → l = [.int .u64 a, .int .u64 b, .int .u64 c] := by
      intro l hl
      match l, hl with
      | [p, q, r], hl =>
        simp only [VRs, VR] at hl
        rw [hl.1, hl.2.1, hl.2.2.1]
      | [], hl => simp [VRs] at hl
      | [_], hl => simp [VRs] at hl
      | [_, _], hl => simp [VRs] at hl
      | _ :: _ :: _ :: _ :: _, hl => simp [VRs] at hl
    have h2 := h1 cargs.toList hargs
    exact Array.toList_inj.1 h2
  subst hc
  unfold Invokes
  rw [run_callFunc_extern hf hname hb hn he, hl a b c y hxy]
  simp only [Result.andThen]
  refine ⟨ρ, _, rfl, ?_, ?_⟩
  · obtain ⟨p, q, u⟩ := y
    simp only [outV, Sh.args, Sh.arg, resV, VR]
    exact ⟨_, rfl, by simp [VRs, VR]⟩
  · exact ⟨hsim, fun _ _ => rfl, rfl, rfl, rfl, rfl, Nat.le_refl _, fun _ _ _ => rfl, fun b blk d hb hd hrw hs => by
      have : Heap.get (Sh.entss U3 (a, b, c, ()) ++ newEnts U2 y) b = .free := by
        obtain ⟨p, q, u⟩ := y
        rfl
      exact absurd hb (by
        intro hb
        have h9 : Heap.get ([] : Heap) b = .live blk := hb
        simp [Heap.get] at h9)⟩

theorem add64_run {P : Program} (a b c : Int) (y : Sh.Ts U2) (h : add64Law (a, b, c, ()) = some y) (w : World) : (add64Entry #[.int .u64 a, .int .u64 b, .int .u64 c]).run P w = .ok (.tuple #[.int .u64 y.1, .int .u64 y.2.1]) w := by
  unfold add64Law at h
  cases hc : decide (Int.toNat c ≤ 1) with
  | false => simp only [hc, cond_false] at h; cases h
  | true =>
    simp only [hc, cond_true] at h
    injection h with h; subst h
    have hc : Int.toNat c ≤ 1 := by simpa using hc
    simp only [add64Entry, Sem.run_bind, run_three _ _ _ _ hc, Result.andThen, Sem.run_pure, Extern.MathBitsCarry.pair, Extern.MathBitsCarry.m64]
    rfl
theorem sub64_run {P : Program} (a b c : Int) (y : Sh.Ts U2) (h : sub64Law (a, b, c, ()) = some y) (w : World) : (sub64Entry #[.int .u64 a, .int .u64 b, .int .u64 c]).run P w = .ok (.tuple #[.int .u64 y.1, .int .u64 y.2.1]) w := by
  unfold sub64Law at h
  cases hc : decide (Int.toNat c ≤ 1) with
  | false => simp only [hc, cond_false] at h; cases h
  | true =>
    simp only [hc, cond_true] at h
    injection h with h; subst h
    have hc : Int.toNat c ≤ 1 := by simpa using hc
    simp only [sub64Entry, Sem.run_bind, run_three _ _ _ _ hc, Result.andThen, Sem.run_pure, Extern.MathBitsCarry.pair, Extern.MathBitsCarry.m64]
    split <;> rfl

end Go.Ab
