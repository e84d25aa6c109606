/- Plain Lean: what the laws of this program's functions come to, in numbers and lists; no program is run here. -/
import Derived.Test.YtkobnmpilcpojaaGreatPP7f
set_option linter.unusedVariables false
set_option linter.unusedSimpArgs false
set_option maxRecDepth 100000
namespace Go.Ab
open Go Go.IntWalk
abbrev Vec := Int × Int × Int × Unit
def V64 (v : Vec) : Prop := I64 v.1 ∧ I64 v.2.1 ∧ I64 v.2.2.1
def vmO (v : Vec) (s : Int) : Bool := mo v.1 s || (mo v.2.1 s || mo v.2.2.1 s)
def vmV (v : Vec) (s : Int) : Vec := (mv v.1 s, mv v.2.1 s, mv v.2.2.1 s, ())
def vaO (v w : Vec) : Bool := ao v.1 w.1 || (ao v.2.1 w.2.1 || ao v.2.2.1 w.2.2.1)
def vaV (v w : Vec) : Vec := (av v.1 w.1, av v.2.1 w.2.1, av v.2.2.1 w.2.2.1, ())
theorem vmV_r (v : Vec) (s : Int) : V64 (vmV v s) := ⟨mv_r _ _, mv_r _ _, mv_r _ _⟩
theorem vaV_r (v w : Vec) : V64 (vaV v w) := ⟨av_r _ _, av_r _ _, av_r _ _⟩
def clV (x lo hi : Int) : Int := if x < lo then lo else if x > hi then hi else x
theorem clV_r {x lo hi : Int} (h : I64 x) (h1 : I64 lo) (h2 : I64 hi) : I64 (clV x lo hi) := by unfold clV; split; assumption; split <;> assumption
def vkV (v : Vec) (c : Int) : Vec := (clV v.1 (IntKind.i64.wrap (0 - c)) c, clV v.2.1 (IntKind.i64.wrap (0 - c)) c, clV v.2.2.1 (IntKind.i64.wrap (0 - c)) c, ())
end Go.Ab
