/-
  CORE 0: shapes of data, and the values that have them. One text for all seats; it names no program.
-/
import Derived.Orders
import Derived.KernelRfl
import Derived.Laws.Cells
import Derived.Laws.CopyRow
set_option linter.unusedVariables false
set_option linter.unusedSimpArgs false
namespace Go.Ab

/-- Shapes of data: numbers, bools, strings, structs and arrays of them; slices of what holds no slice ('sl'); slices of slices of one-cell things ('rows'). -/
inductive Sh where
  | int (k : IntKind)
  | bool
  | str
  | st (l : List Sh)
  | sl (e : Sh)
  | rows (e : Sh)

mutual
@[reducible] def Sh.T : Sh → Type
  | .int _ => Int
  | .bool => Bool
  | .str => ByteArray
  | .st l => Sh.Ts l
  | .sl e => List (Sh.T e)
  | .rows e => List (List (Sh.T e))
@[reducible] def Sh.Ts : List Sh → Type
  | [] => Unit
  | s :: l => Sh.T s × Sh.Ts l
end
mutual
def Sh.enc : (s : Sh) → s.T → List Value
  | .int k, x => [.int k x]
  | .bool, b => [.bool b]
  | .str, s => [.string s]
  | .st l, x => Sh.encs l x
  | .sl _, _ => []
  | .rows _, _ => []
def Sh.encs : (l : List Sh) → Sh.Ts l → List Value
  | [], _ => []
  | s :: l, x => Sh.enc s x.1 ++ Sh.encs l x.2
end
mutual
def Sh.ok : (s : Sh) → s.T → Prop
  | .int k, x => k.min ≤ x ∧ x ≤ k.max
  | .bool, _ => True
  | .str, s => s.size ≤ 9223372036854775807
  | .st l, x => Sh.oks l x
  | .sl e, l => (∀ y ∈ l, Sh.ok e y) ∧ l.length ≤ 9223372036854775807
  | .rows e, l => (∀ r ∈ l, (∀ y ∈ r, Sh.ok e y) ∧ r.length ≤ 9223372036854775807) ∧ l.length ≤ 9223372036854775807
def Sh.oks : (l : List Sh) → Sh.Ts l → Prop
  | [], _ => True
  | s :: l, x => Sh.ok s x.1 ∧ Sh.oks l x.2
end
mutual
def Sh.w : Sh → Nat
  | .int _ => 1
  | .bool => 1
  | .str => 1
  | .st l => Sh.ws l
  | .sl _ => 1
  | .rows _ => 1
def Sh.ws : List Sh → Nat
  | [] => 0
  | s :: l => Sh.w s + Sh.ws l
end
mutual
def Sh.flat : Sh → Bool
  | .int _ => true
  | .bool => true
  | .str => true
  | .st l => Sh.flats l
  | .sl _ => false
  | .rows _ => false
def Sh.flats : List Sh → Bool
  | [] => true
  | s :: l => Sh.flat s && Sh.flats l
end
mutual
theorem enc_length : ∀ (s : Sh) (x : s.T), s.flat = true → (s.enc x).length = s.w
  | .int k, x, _ => rfl
  | .bool, x, _ => rfl
  | .str, x, _ => rfl
  | .st l, x, h => by simp only [Sh.flat] at h; simpa [Sh.enc, Sh.w] using encs_length l x h
  | .sl _, _, h => by simp [Sh.flat] at h
  | .rows _, _, h => by simp [Sh.flat] at h
theorem encs_length : ∀ (l : List Sh) (x : Sh.Ts l), Sh.flats l = true → (Sh.encs l x).length = Sh.ws l
  | [], _, _ => rfl
  | s :: l, x, h => by
    simp only [Sh.flats, Bool.and_eq_true] at h
    simp [Sh.encs, Sh.ws, enc_length s x.1 h.1, encs_length l x.2 h.2]
end


/-- All of a slice's cells. -/
def Sh.flatl (s : Sh) (l : List s.T) : List Value := l.flatMap s.enc
theorem flatl_length (s : Sh) (h : s.flat = true) : ∀ l : List s.T, (s.flatl l).length = l.length * s.w
  | [] => by simp [Sh.flatl]
  | x :: l => by
    have := flatl_length s h l
    simp only [Sh.flatl] at this ⊢
    rw [List.flatMap_cons, List.length_append, this, enc_length s x h, List.length_cons, Nat.add_mul, Nat.one_mul, Nat.add_comm]
end Go.Ab
