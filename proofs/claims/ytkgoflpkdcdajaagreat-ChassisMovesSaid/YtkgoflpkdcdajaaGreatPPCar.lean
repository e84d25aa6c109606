/- Plain Lean: what the laws of this program's functions come to, in numbers and lists; no program is run here. -/
import Derived.Test.YtkgoflpkdcdajaaGreatPPl0
set_option linter.unusedVariables false
set_option linter.unusedSimpArgs false
set_option maxRecDepth 100000
namespace Go.Ab
open Go Go.Ab
/-
  Which cars may be, in plain Lean: what car.Right tells. One text for all seats; it names no program.
-/
abbrev Bnd := Int × Int × Int × Unit
abbrev Dot := Int × Int × Unit
abbrev Pan := List Int × List Int × List (List Int) × Unit
def outB (b : Bnd) : Bool := decide (b.1 < b.2.1) || decide (b.1 > b.2.2.1)
def rangedR (l : List Bnd) : Int := bif l.any outB then 40 else 0
def farI (x : Int) : Bool := decide (x > 4503599627370496) || decide (x < -4503599627370496)
def tabGo : Option Int → List Dot → Int
  | _, [] => 0
  | p, d :: l => bif farI d.1 || farI d.2.1 then 40 else bif (match p with
    | some a => decide (d.1 ≤ a)
    | none => false) then 41 else tabGo (some d.1) l
def tabR (l : List Dot) : Int := bif decide ((l.length : Int) < 2) || decide ((l.length : Int) > 32) then 42 else tabGo none l
def alikeD (d : Dot) : Bool := !(decide (d.1 > 0) && decide (d.2.1 < 0) || decide (d.1 < 0) && decide (d.2.1 > 0))
def valR (also : Dot → Bool) (l : List Dot) (lo hi : Int) : Int := bif tabR l != 0 then tabR l else bif l.any (fun d => decide (d.2.1 < lo) || decide (d.2.1 > hi) || !also d) then 40 else 0
def risesL : List Int → Bool
  | [] => true
  | [_] => true
  | a :: b :: l => decide (a < b) && risesL (b :: l)
def mayN (n : Nat) : Bool := decide (2 ≤ n) && decide (n ≤ 32)
def countedP (p : Pan) : Bool := mayN p.1.length && mayN p.2.1.length && decide (p.2.2.1.length = p.2.1.length) && p.2.2.1.all fun r => decide (r.length = p.1.length)
def paneR (p : Pan) : Int := bif !countedP p then 42 else bif p.1.any farI || p.2.1.any farI || p.2.2.1.any (fun r => r.any farI) then 40 else bif !risesL p.1 || !risesL p.2.1 then 41 else 0
def minL (l : List Int) : Int := l.tail.foldl (fun a b => if b < a then b else a) (l.headD 0)
def maxL (l : List Int) : Int := l.tail.foldl (fun a b => if b > a then b else a) (l.headD 0)
def boundsP (p : Pan) : Int × Int := bif paneR p != 0 then (0, 0) else (minL p.2.2.1.flatten, maxL p.2.2.1.flatten)
def min2 (a b : Int) : Int := if b < a then b else a
def tyreR (p : Pan) : Int := bif paneR p != 0 then paneR p else rangedR [(min2 (min2 (p.1.headD 0) (p.2.1.headD 0)) (boundsP p).1, 0, 18014398509481984, ()), ((boundsP p).2, 0, 17179869184, ())]
def aboveR (a b : Int) : Int := bif decide (a ≤ b) then 41 else 0
def firstR (l : List Int) : Int := match scanL (fun v => v != 0) l 0 with
  | some (_, v) => v
  | none => 0
theorem risesL_get : ∀ {l : List Int}, risesL l = true → ∀ k a b, l[k]? = some a → l[k + 1]? = some b → a < b
  | [], _, k, a, b, h, _ => by simp at h
  | [x], _, k, a, b, _, h => by simp at h
  | x :: y :: l, h, 0, a, b, h1, h2 => by
    simp only [risesL, Bool.and_eq_true, decide_eq_true_eq] at h
    simp at h1 h2; subst h1; subst h2; exact h.1
  | x :: y :: l, h, k + 1, a, b, h1, h2 => by
    simp only [risesL, Bool.and_eq_true] at h
    exact risesL_get h.2 k a b (by simpa using h1) (by simpa using h2)
theorem risesL_of : ∀ {l : List Int}, (∀ k a b, l[k]? = some a → l[k + 1]? = some b → a < b) → risesL l = true
  | [], _ => rfl
  | [x], _ => rfl
  | x :: y :: l, h => by
    simp only [risesL, Bool.and_eq_true, decide_eq_true_eq]
    exact ⟨h 0 x y (by simp) (by simp), risesL_of fun k a b h1 h2 => h (k + 1) a b (by simpa using h1) (by simpa using h2)⟩
end Go.Ab
