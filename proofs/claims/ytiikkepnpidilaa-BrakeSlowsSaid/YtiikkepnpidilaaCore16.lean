/-
  CORE 16: values of a shape as abstract values and blocks.
-/
import Derived.Test.YtiikkepnpidilaaCore15
set_option linter.unusedVariables false
set_option linter.unusedSimpArgs false
namespace Go.Ab

mutual
/-- The blocks that lie behind a value. -/
def Sh.ents : (s : Sh) → s.T → List Ent
  | .int _, _ => []
  | .bool, _ => []
  | .str, _ => []
  | .st l, x => Sh.entss l x
  | .sl e, l => [.live { cells := .arr e l, rw := false }]
  | .rows e, l => [.live { cells := .arrs e l, rw := false }]
def Sh.entss : (l : List Sh) → Sh.Ts l → List Ent
  | [], _ => []
  | s :: l, x => Sh.ents s x.1 ++ Sh.entss l x.2
end
mutual
/-- How many of them. -/
def Sh.ne : Sh → Nat
  | .int _ => 0
  | .bool => 0
  | .str => 0
  | .st l => Sh.nes l
  | .sl _ => 1
  | .rows _ => 1
def Sh.nes : List Sh → Nat
  | [] => 0
  | s :: l => Sh.ne s + Sh.nes l
end
mutual
/-- Its cells, the blocks being numbered from n on. -/
def Sh.cells : (s : Sh) → s.T → Nat → List AV
  | .int k, x, _ => [.val (.int k x)]
  | .bool, b, _ => [.val (.bool b)]
  | .str, s, _ => [.val (.string s)]
  | .st l, x, n => Sh.cellss l x n
  | .sl _, l, n => [.slc n 0 l.length .low]
  | .rows _, l, n => [.slc n 0 l.length .low]
def Sh.cellss : (l : List Sh) → Sh.Ts l → Nat → List AV
  | [], _, _ => []
  | s :: l, x, n => Sh.cells s x.1 n ++ Sh.cellss l x.2 (n + Sh.ne s)
end
mutual
theorem ents_length : ∀ (s : Sh) (x : s.T), (s.ents x).length = s.ne
  | .int _, _ => rfl
  | .bool, _ => rfl
  | .str, _ => rfl
  | .st l, x => by simpa [Sh.ents, Sh.ne] using entss_length l x
  | .sl _, _ => rfl
  | .rows _, _ => rfl
theorem entss_length : ∀ (l : List Sh) (x : Sh.Ts l), (Sh.entss l x).length = Sh.nes l
  | [], _ => rfl
  | s :: l, x => by simp [Sh.entss, Sh.nes, ents_length s x.1, entss_length l x.2]
end

mutual
theorem ents_live : ∀ (s : Sh) (y : s.T) (e : Ent), e ∈ s.ents y → ∃ blk : Blk, e = .live blk ∧ blk.rw = false ∧ (∀ l, blk.cells ≠ .lit l)
  | .int _, _, e, h => by simp [Sh.ents] at h
  | .bool, _, e, h => by simp [Sh.ents] at h
  | .str, _, e, h => by simp [Sh.ents] at h
  | .st l, y, e, h => entss_live l y e (by simpa [Sh.ents] using h)
  | .sl _, y, e, h => by simp [Sh.ents] at h; subst h; exact ⟨_, rfl, rfl, by simp⟩
  | .rows _, y, e, h => by simp [Sh.ents] at h; subst h; exact ⟨_, rfl, rfl, by simp⟩
theorem entss_live : ∀ (l : List Sh) (y : Sh.Ts l) (e : Ent), e ∈ Sh.entss l y → ∃ blk : Blk, e = .live blk ∧ blk.rw = false ∧ (∀ l, blk.cells ≠ .lit l)
  | [], _, e, h => by simp [Sh.entss] at h
  | s :: l, y, e, h => by
    simp only [Sh.entss, List.mem_append] at h
    rcases h with h | h
    · exact ents_live s y.1 e h
    · exact entss_live l y.2 e h
end

/-- An argument. -/
def Sh.arg : (s : Sh) → s.T → Nat → AV
  | .int k, x, _ => .val (.int k x)
  | .bool, b, _ => .val (.bool b)
  | .str, s, _ => .val (.string s)
  | .st l, x, n => .agg (Sh.cellss l x n)
  | .sl _, l, n => .slc n 0 l.length .low
  | .rows _, l, n => .slc n 0 l.length .low
def Sh.args : (l : List Sh) → Sh.Ts l → Nat → List AV
  | [], _, _ => []
  | s :: l, x, n => s.arg x.1 n :: Sh.args l x.2 (n + s.ne)
end Go.Ab
