/- Plain Lean: what the laws of this program's functions come to, in numbers and lists; no program is run here. -/
import Derived.Test.YtkobnmpilcpojaaGreatPPCar3
set_option linter.unusedVariables false
set_option linter.unusedSimpArgs false
set_option maxRecDepth 100000
namespace Go.Ab
open Go Go.IntWalk
abbrev V3S : Sh := .st [.int .i64, .int .i64, .int .i64]
abbrev WheelS : Sh := .st [V3S, .int .i64, .int .i64, .int .i64, .int .i64, .int .i64, .bool, .bool]
abbrev DotS : Sh := .st [.int .i64, .int .i64]
abbrev PaneS : Sh := .st [.sl (.int .i64), .sl (.int .i64), .rows (.int .i64)]
abbrev CarS : Sh := .st [.int .i64, V3S, .st [WheelS, WheelS, WheelS, WheelS], .st [.int .i64, .int .i64], .sl (DotS), PaneS, .sl (DotS), .sl (DotS), .int .i64, .int .i64, .int .i64, .int .i64, .int .i64, .int .i64, .int .i64, .int .i64, .sl (.int .i64), .int .i64, .int .i64, .int .i64, .int .i64, .int .i64, .int .i64, .int .u32, .int .u32, .int .i64, .int .i64, .int .i64, .int .i64, .int .i64, .int .i64, .int .i64]
structure OkV (v : V3) : Prop where
  x : I64 (v.fst)
  y : I64 (v.snd.fst)
  z : I64 (v.snd.snd.fst)
structure OkW (w : Whl) : Prop where
  hub : OkV (w.fst)
  radius : I64 (w.snd.fst)
  inertia : I64 (w.snd.snd.fst)
  spring : I64 (w.snd.snd.snd.fst)
  travel : I64 (w.snd.snd.snd.snd.fst)
  bump : I64 (w.snd.snd.snd.snd.snd.fst)
def OkD (d : Dot) : Prop := I64 d.1 ∧ I64 d.2.1
def OkL (l : List Int) : Prop := ∀ a ∈ l, I64 a
structure OkP (p : Pan) : Prop where
  xs : OkL p.1
  ys : OkL p.2.1
  rows : ∀ r ∈ p.2.2.1, OkL r
structure OkC (c : Car) : Prop where
  i0 : I64 (c.fst)
  i8 : I64 (c.snd.snd.snd.snd.snd.snd.snd.snd.fst)
  i9 : I64 (c.snd.snd.snd.snd.snd.snd.snd.snd.snd.fst)
  i10 : I64 (c.snd.snd.snd.snd.snd.snd.snd.snd.snd.snd.fst)
  i11 : I64 (c.snd.snd.snd.snd.snd.snd.snd.snd.snd.snd.snd.fst)
  i12 : I64 (c.snd.snd.snd.snd.snd.snd.snd.snd.snd.snd.snd.snd.fst)
  i13 : I64 (c.snd.snd.snd.snd.snd.snd.snd.snd.snd.snd.snd.snd.snd.fst)
  i14 : I64 (c.snd.snd.snd.snd.snd.snd.snd.snd.snd.snd.snd.snd.snd.snd.fst)
  i15 : I64 (c.snd.snd.snd.snd.snd.snd.snd.snd.snd.snd.snd.snd.snd.snd.snd.fst)
  i17 : I64 (c.snd.snd.snd.snd.snd.snd.snd.snd.snd.snd.snd.snd.snd.snd.snd.snd.snd.fst)
  i18 : I64 (c.snd.snd.snd.snd.snd.snd.snd.snd.snd.snd.snd.snd.snd.snd.snd.snd.snd.snd.fst)
  i19 : I64 (c.snd.snd.snd.snd.snd.snd.snd.snd.snd.snd.snd.snd.snd.snd.snd.snd.snd.snd.snd.fst)
  i20 : I64 (c.snd.snd.snd.snd.snd.snd.snd.snd.snd.snd.snd.snd.snd.snd.snd.snd.snd.snd.snd.snd.fst)
  i21 : I64 (c.snd.snd.snd.snd.snd.snd.snd.snd.snd.snd.snd.snd.snd.snd.snd.snd.snd.snd.snd.snd.snd.fst)
  i22 : I64 (c.snd.snd.snd.snd.snd.snd.snd.snd.snd.snd.snd.snd.snd.snd.snd.snd.snd.snd.snd.snd.snd.snd.fst)
  i25 : I64 (c.snd.snd.snd.snd.snd.snd.snd.snd.snd.snd.snd.snd.snd.snd.snd.snd.snd.snd.snd.snd.snd.snd.snd.snd.snd.fst)
  i26 : I64 (c.snd.snd.snd.snd.snd.snd.snd.snd.snd.snd.snd.snd.snd.snd.snd.snd.snd.snd.snd.snd.snd.snd.snd.snd.snd.snd.fst)
  i27 : I64 (c.snd.snd.snd.snd.snd.snd.snd.snd.snd.snd.snd.snd.snd.snd.snd.snd.snd.snd.snd.snd.snd.snd.snd.snd.snd.snd.snd.fst)
  i28 : I64 (c.snd.snd.snd.snd.snd.snd.snd.snd.snd.snd.snd.snd.snd.snd.snd.snd.snd.snd.snd.snd.snd.snd.snd.snd.snd.snd.snd.snd.fst)
  i29 : I64 (c.snd.snd.snd.snd.snd.snd.snd.snd.snd.snd.snd.snd.snd.snd.snd.snd.snd.snd.snd.snd.snd.snd.snd.snd.snd.snd.snd.snd.snd.fst)
  i30 : I64 (c.snd.snd.snd.snd.snd.snd.snd.snd.snd.snd.snd.snd.snd.snd.snd.snd.snd.snd.snd.snd.snd.snd.snd.snd.snd.snd.snd.snd.snd.snd.fst)
  i31 : I64 (c.snd.snd.snd.snd.snd.snd.snd.snd.snd.snd.snd.snd.snd.snd.snd.snd.snd.snd.snd.snd.snd.snd.snd.snd.snd.snd.snd.snd.snd.snd.snd.fst)
  inertia : OkV (c.snd.fst)
  w0 : OkW ((c.snd.snd.fst).fst)
  w1 : OkW ((c.snd.snd.fst).snd.fst)
  w2 : OkW ((c.snd.snd.fst).snd.snd.fst)
  w3 : OkW ((c.snd.snd.fst).snd.snd.snd.fst)
  b0 : I64 ((c.snd.snd.snd.fst).fst)
  b1 : I64 ((c.snd.snd.snd.fst).snd.fst)
  damper : ∀ d ∈ c.snd.snd.snd.snd.fst, OkD d
  tyre : OkP (c.snd.snd.snd.snd.snd.fst)
  torque : ∀ d ∈ c.snd.snd.snd.snd.snd.snd.fst, OkD d
  air : ∀ d ∈ c.snd.snd.snd.snd.snd.snd.snd.fst, OkD d
  gears : OkL (c.snd.snd.snd.snd.snd.snd.snd.snd.snd.snd.snd.snd.snd.snd.snd.snd.fst)
  steer : 0 ≤ (c.snd.snd.snd.snd.snd.snd.snd.snd.snd.snd.snd.snd.snd.snd.snd.snd.snd.snd.snd.snd.snd.snd.snd.fst : Int) ∧ (c.snd.snd.snd.snd.snd.snd.snd.snd.snd.snd.snd.snd.snd.snd.snd.snd.snd.snd.snd.snd.snd.snd.snd.fst : Int) < 4294967296
  rate : 0 ≤ (c.snd.snd.snd.snd.snd.snd.snd.snd.snd.snd.snd.snd.snd.snd.snd.snd.snd.snd.snd.snd.snd.snd.snd.snd.fst : Int) ∧ (c.snd.snd.snd.snd.snd.snd.snd.snd.snd.snd.snd.snd.snd.snd.snd.snd.snd.snd.snd.snd.snd.snd.snd.snd.fst : Int) < 4294967296
theorem okI {a : Int} (h : Sh.ok (.int .i64) a) : I64 a := h
theorem okU {a : Int} (h : Sh.ok (.int .u32) a) : 0 ≤ a ∧ a < 4294967296 := ⟨h.1, Int.lt_of_le_of_lt h.2 (by decide)⟩
theorem okV {v : V3} (h : Sh.ok V3S v) : OkV v := ⟨okI h.1, okI h.2.1, okI h.2.2.1⟩
theorem okW {w : Whl} (h : Sh.ok WheelS w) : OkW w := ⟨okV h.1, okI h.2.1, okI h.2.2.1, okI h.2.2.2.1, okI h.2.2.2.2.1, okI h.2.2.2.2.2.1⟩
theorem okD {d : Dot} (h : Sh.ok DotS d) : OkD d := ⟨okI h.1, okI h.2.1⟩
theorem okDs {l : List Dot} (h : Sh.ok (.sl DotS) l) : ∀ d ∈ l, OkD d := fun d hd => okD (h.1 d hd)
theorem okLi {l : List Int} (h : Sh.ok (.sl (.int .i64)) l) : OkL l := fun d hd => okI (h.1 d hd)
theorem okP {p : Pan} (h : Sh.ok PaneS p) : OkP p := ⟨okLi h.1, okLi h.2.1, fun r hr a ha => okI ((h.2.2.1.1 r hr).1 a ha)⟩
theorem okC {c : Car} (h : Sh.ok CarS c) : OkC c := { i0 := okI h.1, i8 := okI h.2.2.2.2.2.2.2.2.1, i9 := okI h.2.2.2.2.2.2.2.2.2.1, i10 := okI h.2.2.2.2.2.2.2.2.2.2.1, i11 := okI h.2.2.2.2.2.2.2.2.2.2.2.1, i12 := okI h.2.2.2.2.2.2.2.2.2.2.2.2.1, i13 := okI h.2.2.2.2.2.2.2.2.2.2.2.2.2.1, i14 := okI h.2.2.2.2.2.2.2.2.2.2.2.2.2.2.1, i15 := okI h.2.2.2.2.2.2.2.2.2.2.2.2.2.2.2.1, i17 := okI h.2.2.2.2.2.2.2.2.2.2.2.2.2.2.2.2.2.1, i18 := okI h.2.2.2.2.2.2.2.2.2.2.2.2.2.2.2.2.2.2.1, i19 := okI h.2.2.2.2.2.2.2.2.2.2.2.2.2.2.2.2.2.2.2.1, i20 := okI h.2.2.2.2.2.2.2.2.2.2.2.2.2.2.2.2.2.2.2.2.1, i21 := okI h.2.2.2.2.2.2.2.2.2.2.2.2.2.2.2.2.2.2.2.2.2.1, i22 := okI h.2.2.2.2.2.2.2.2.2.2.2.2.2.2.2.2.2.2.2.2.2.2.1, i25 := okI h.2.2.2.2.2.2.2.2.2.2.2.2.2.2.2.2.2.2.2.2.2.2.2.2.2.1, i26 := okI h.2.2.2.2.2.2.2.2.2.2.2.2.2.2.2.2.2.2.2.2.2.2.2.2.2.2.1, i27 := okI h.2.2.2.2.2.2.2.2.2.2.2.2.2.2.2.2.2.2.2.2.2.2.2.2.2.2.2.1, i28 := okI h.2.2.2.2.2.2.2.2.2.2.2.2.2.2.2.2.2.2.2.2.2.2.2.2.2.2.2.2.1, i29 := okI h.2.2.2.2.2.2.2.2.2.2.2.2.2.2.2.2.2.2.2.2.2.2.2.2.2.2.2.2.2.1, i30 := okI h.2.2.2.2.2.2.2.2.2.2.2.2.2.2.2.2.2.2.2.2.2.2.2.2.2.2.2.2.2.2.1, i31 := okI h.2.2.2.2.2.2.2.2.2.2.2.2.2.2.2.2.2.2.2.2.2.2.2.2.2.2.2.2.2.2.2.1, inertia := okV h.2.1, w0 := okW h.2.2.1.1, w1 := okW h.2.2.1.2.1, w2 := okW h.2.2.1.2.2.1, w3 := okW h.2.2.1.2.2.2.1, b0 := okI h.2.2.2.1.1, b1 := okI h.2.2.2.1.2.1, damper := okDs h.2.2.2.2.1, tyre := okP h.2.2.2.2.2.1, torque := okDs h.2.2.2.2.2.2.1, air := okDs h.2.2.2.2.2.2.2.1, gears := okLi h.2.2.2.2.2.2.2.2.2.2.2.2.2.2.2.2.1, steer := okU h.2.2.2.2.2.2.2.2.2.2.2.2.2.2.2.2.2.2.2.2.2.2.2.1, rate := okU h.2.2.2.2.2.2.2.2.2.2.2.2.2.2.2.2.2.2.2.2.2.2.2.2.1 }
theorem addS_r (o : Bool) (a b : Int) : I64 (addS o a b).2 := satS_range _ _
theorem subS_r (o : Bool) (a b : Int) : I64 (subS o a b).2 := satS_range _ _
theorem mulS_r (o : Bool) (a b : Int) : I64 (mulS o a b).2 := satS_range _ _
theorem divS_r (o : Bool) (a b : Int) : I64 (divS o a b).2 := by
  unfold divS
  split
  · unfold I64
    show _ ≤ (if a = 0 then (0 : Int) else if a < 0 then -9223372036854775808 else 9223372036854775807) ∧ (if a = 0 then (0 : Int) else if a < 0 then -9223372036854775808 else 9223372036854775807) ≤ _
    split
    · exact ⟨by decide, by decide⟩
    · split
      · exact ⟨by decide, by decide⟩
      · exact ⟨by decide, by decide⟩
  · exact satS_range _ _
theorem absS_r (o : Bool) (a : Int) (h : I64 a) : 0 ≤ (absS o a).2 ∧ (absS o a).2 ≤ 9223372036854775807 := by
  unfold I64 at h
  unfold absS subS satS
  split
  · split
    · exact ⟨by decide, by decide⟩
    · split
      · omega
      · exact ⟨by show 0 ≤ 0 - a; omega, by show 0 - a ≤ _; omega⟩
  · exact ⟨by show 0 ≤ a; omega, h.2⟩
theorem I64_zero : I64 0 := ⟨by decide, by decide⟩
theorem res_1 (p : Bool × Int) : (res p).1 = (p.1, ()) := rfl
theorem res_2 (p : Bool × Int) : (res p).2 = (p.2, ()) := rfl
end Go.Ab
