/- Plain Lean: what the laws of this program's functions come to, in numbers and lists; no program is run here. -/
import Derived.Test.YtkobnmpilcpojaaGreatPP7s
set_option linter.unusedVariables false
set_option linter.unusedSimpArgs false
set_option maxRecDepth 100000
namespace Go.Ab
open Go Go.Ab
def lv : List Int → Int
  | [] => 0
  | a :: l => a + 4294967296 * lv l
def dig (l : List Int) : Prop := ∀ a ∈ l, 0 ≤ a ∧ a < 4294967296
def cadd : List Int → Int → List Int
  | [], _ => []
  | a :: l, c => if c > 0 then ((a + c % 4294967296) % 4294967296) :: cadd l (c / 4294967296 + (a + c % 4294967296) / 4294967296) else a :: l
theorem cadd_dig : ∀ (l : List Int) (c : Int), dig l → 0 ≤ c → dig (cadd l c)
  | [], c, h, _ => h
  | a :: l, c, h, hc => by
    have ha := h a (by simp)
    have hl : dig l := fun b hb => h b (by simp [hb])
    unfold cadd
    split
    · intro b hb
      rcases List.mem_cons.1 hb with rfl | hb
      · omega
      · exact cadd_dig l _ hl (by omega) b hb
    · exact h
theorem cadd_val : ∀ (l : List Int) (c : Int), dig l → 0 ≤ c → lv l + c < 4294967296 ^ l.length → lv (cadd l c) = lv l + c
  | [], c, h, hc, hb => by
    simp only [lv, List.length_nil, Int.pow_zero] at hb
    simp only [cadd, lv]; omega
  | a :: l, c, h, hc, hb => by
    have ha := h a (by simp)
    have hl : dig l := fun b hb => h b (by simp [hb])
    unfold cadd
    split
    · rename_i hp
      simp only [lv, List.length_cons, Int.pow_succ] at hb
      have ih := cadd_val l (c / 4294967296 + (a + c % 4294967296) / 4294967296) hl (by omega) (by omega)
      simp only [lv]
      rw [ih]; omega
    · have : c = 0 := by omega
      subst this
      simp [lv]
theorem lv_dig : ∀ (l : List Int), dig l → 0 ≤ lv l ∧ lv l < 4294967296 ^ l.length
  | [], _ => by simp [lv]
  | a :: l, h => by
    have ha := h a (by simp)
    have ih := lv_dig l fun b hb => h b (by simp [hb])
    simp only [lv, List.length_cons, Int.pow_succ]
    omega
end Go.Ab
