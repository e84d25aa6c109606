/- Plain Lean: what the laws of this program's functions come to, in numbers and lists; no program is run here. -/
import Derived.Test.YtkobnmpilcpojaaGreatPPFx
set_option linter.unusedVariables false
set_option linter.unusedSimpArgs false
set_option maxRecDepth 100000
namespace Go.Ab
open Go Go.Ab
abbrev Dot := Int × Int × Unit
abbrev Pan := List Int × List Int × List (List Int) × Unit
def farI (x : Int) : Bool := decide (x > 4503599627370496) || decide (x < -4503599627370496)
def risesL : List Int → Bool
  | [] => true
  | [_] => true
  | a :: b :: l => decide (a < b) && risesL (b :: l)
def mayN (n : Nat) : Bool := decide (2 ≤ n) && decide (n ≤ 32)
def countedP (p : Pan) : Bool := mayN p.1.length && mayN p.2.1.length && decide (p.2.2.1.length = p.2.1.length) && p.2.2.1.all fun r => decide (r.length = p.1.length)
def paneR (p : Pan) : Int := bif !countedP p then 42 else bif p.1.any farI || p.2.1.any farI || p.2.2.1.any (fun r => r.any farI) then 40 else bif !risesL p.1 || !risesL p.2.1 then 41 else 0
theorem risesL_get : ∀ {l : List Int}, risesL l = true → ∀ k a b, l[k]? = some a → l[k + 1]? = some b → a < b
  | [], _, k, a, b, h, _ => by simp at h
  | [x], _, k, a, b, _, h => by simp at h
  | x :: y :: l, h, 0, a, b, h1, h2 => by
    simp only [risesL, Bool.and_eq_true, decide_eq_true_eq] at h
    simp at h1 h2; subst h1; subst h2; exact h.1
  | x :: y :: l, h, k + 1, a, b, h1, h2 => by
    simp only [risesL, Bool.and_eq_true] at h
    exact risesL_get h.2 k a b (by simpa using h1) (by simpa using h2)
theorem risesL_of : ∀ {l : List Int}, (∀ k a b, l[k]? = some a → l[k + 1]? = some b → a < b) → risesL l = true
  | [], _ => rfl
  | [x], _ => rfl
  | x :: y :: l, h => by
    simp only [risesL, Bool.and_eq_true, decide_eq_true_eq]
    exact ⟨h 0 x y (by simp) (by simp), risesL_of fun k a b h1 h2 => h (k + 1) a b (by simpa using h1) (by simpa using h2)⟩
end Go.Ab
