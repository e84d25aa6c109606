/- The laws of gearbox.Shift and of the document are one; behind a shift the gear stays: in plain numbers, no program in sight. -/
import Derived.Test.YtkcmgjbonmalmaaLaws
import Derived.IntWalk
set_option linter.unusedVariables false
set_option linter.unusedSimpArgs false
set_option maxRecDepth 100000
namespace Go.Proofs.Ytkcmgjbonmalmaa
open Go Go.Ab Go.Proofs Go.IntWalk
/-- The loop over a pane's rows ends: with the first answer or the last. -/
theorem few15o0 {β : Type} (N0 : Nat) (x : Sh.Ts [PaneSh]) (k0 k1 : Option β) : ∀ (n : Nat) (i : Int), 0 ≤ i → i ≤ (x.fst.snd.snd.fst.length : Int) → (x.fst.snd.snd.fst.length : Int) < 2 ^ 62 → (x.fst.snd.snd.fst.length : Int) - i < n → law15o0 N0 x k0 k1 n i = k0 ∨ law15o0 N0 x k0 k1 n i = k1
  | 0, i, _, _, _, h => by omega
  | n + 1, i, h0, h1, h2, h => by
    unfold law15o0
    by_cases hc : i < (x.fst.snd.snd.fst.length : Int)
    · obtain ⟨v, hv⟩ : ∃ v, x.fst.snd.snd.fst[i.toNat]? = some v := ⟨_, List.getElem?_eq_getElem (by omega)⟩
      have hw : IntKind.i64.wrap (i + 1) = i + 1 := i64_in _ (by omega)
      simp only [hc, h0, decide_true, Bool.and_self, cond_true, hv, Option.bind_some, hw]
      cases decide ((v.length : Int) > 40)
      · simp only [cond_false]; exact few15o0 N0 x k0 k1 n (i + 1) (by omega) (by omega) h2 (by omega)
      · exact .inl rfl
    · simp only [hc, decide_false, cond_false, or_true]
theorem few15' (N : Nat) (hN : 100 ≤ N) (x : Sh.Ts [PaneSh]) : ∃ b, law15 N x = some (b, ()) := by
  unfold law15
  cases h1 : decide ((x.fst.fst.length : Int) > 40)
  case true => exact ⟨_, rfl⟩
  cases h2 : decide ((x.fst.snd.fst.length : Int) > 40)
  case true => exact ⟨_, rfl⟩
  cases h3 : decide ((x.fst.snd.snd.fst.length : Int) > 40)
  case true => exact ⟨_, rfl⟩
  have h3 : ¬ ((x.fst.snd.snd.fst.length : Int) > 40) := by simpa using h3
  rcases few15o0 N x (some (false, ())) (some (true, ())) N 0 (by omega) (by omega) (by omega) (by omega) with h | h
  · exact ⟨_, h⟩
  · exact ⟨_, h⟩
theorem few15 (x : Sh.Ts [PaneSh]) : ∃ b, fn15 x = some (b, ()) := few15' _ (by decide) x
theorem few6 (x : Sh.Ts [CarSh]) : ∃ b, fn6 x = some (b, ()) := by
  unfold fn6 law6
  obtain ⟨b, hb⟩ := few15 (x.fst.snd.snd.snd.snd.snd.fst, ())
  simp only [hb, Option.bind_some]
  cases decide ((x.fst.snd.snd.snd.snd.fst.length : Int) ≤ 40)
  · exact ⟨_, rfl⟩
  cases decide ((x.fst.snd.snd.snd.snd.snd.snd.fst.length : Int) ≤ 40)
  · exact ⟨_, rfl⟩
  cases decide ((x.fst.snd.snd.snd.snd.snd.snd.snd.fst.length : Int) ≤ 40)
  · exact ⟨_, rfl⟩
  cases decide ((x.fst.snd.snd.snd.snd.snd.snd.snd.snd.snd.snd.snd.snd.snd.snd.snd.snd.fst.length : Int) ≤ 20)
  · exact ⟨_, rfl⟩
  exact ⟨_, rfl⟩
theorem wanted (x : Sh.Ts [CarSh, DriveSh, ControlSh]) : fn9 x = fn10 x := by
  unfold fn9 law9 fn10 law10 fn16 law16
  generalize x.snd.snd.fst.snd.snd.snd.snd.snd.fst = auto
  generalize x.snd.snd.fst.snd.snd.snd.snd.fst = kg
  generalize x.snd.fst.snd.snd.fst = dg
  generalize x.snd.fst.fst = eng
  generalize (x.fst.snd.snd.snd.snd.snd.snd.snd.snd.snd.snd.snd.snd.snd.snd.snd.snd.fst) = gears
  cases auto
  · simp only [Bool.not_false, cond_true, cond_false, ge_iff_le, gt_iff_lt]
    cases decide (-1 ≤ (kg : Int))
    · rfl
    · cases decide ((kg : Int) ≤ (gears.length : Int)) <;> rfl
  · simp only [Bool.not_true, cond_true, cond_false]
    cases ((kg : Int) == -1) <;> rfl
theorem shift (x : Sh.Ts [CarSh, DriveSh, ControlSh, .int .i64]) : fn7 x = fn8 x := by
  unfold fn7 law7 fn8 law8
  rw [wanted]
  cases h : fn10 (x.fst, x.snd.fst, x.snd.snd.fst, ()) with
  | none => rfl
  | some v =>
    simp only [Option.bind_some]
    by_cases hv : (v.fst : Int) = x.snd.fst.snd.snd.fst
    · simp [hv]
    · have h1 : (v.fst == x.snd.fst.snd.snd.fst) = false := by simpa using hv
      have h2 : (v.fst != x.snd.fst.snd.snd.fst) = true := by simpa using hv
      simp only [h1, h2, cond_true, cond_false]
theorem wanted10 (x : Sh.Ts [CarSh, DriveSh, ControlSh]) : ∃ a, fn10 x = some (a, ()) := by
  unfold fn10 law10 fn16 law16
  generalize x.snd.snd.fst.snd.snd.snd.snd.snd.fst = auto
  generalize x.snd.snd.fst.snd.snd.snd.snd.fst = kg
  generalize x.snd.fst.snd.snd.fst = dg
  generalize x.snd.fst.fst = eng
  generalize (x.fst.snd.snd.snd.snd.snd.snd.snd.snd.snd.snd.snd.snd.snd.snd.snd.snd.fst) = gears
  cases auto
  · simp only [Bool.not_false, cond_true, ge_iff_le]
    cases decide (-1 ≤ (kg : Int))
    · exact ⟨_, rfl⟩
    · cases decide ((kg : Int) ≤ (gears.length : Int)) <;> exact ⟨_, rfl⟩
  · simp only [Bool.not_true, cond_false]
    cases ((kg : Int) == -1)
    · cases ((kg : Int) == 0)
      · simp only [cond_false]
        cases decide ((dg : Int) < 1)
        · simp only [cond_false]
          have two : ∀ (c : Bool) (p q : Option (Sh.Ts [Sh.int IntKind.i64])), (∃ a, p = some (a, ())) → (∃ a, q = some (a, ())) → ∃ a, (bif c then p else q) = some (a, ()) := fun c p q hp hq => by
            cases c
            · exact hq
            · exact hp
          repeat' (first | exact ⟨_, rfl⟩ | refine two _ _ _ ?_ ?_)
        · exact ⟨_, rfl⟩
      · exact ⟨_, rfl⟩
    · exact ⟨_, rfl⟩
theorem shift8 (x : Sh.Ts [CarSh, DriveSh, ControlSh, .int .i64]) : ∃ a b, fn8 x = some (a, b, ()) := by
  unfold fn8 law8
  obtain ⟨a, ha⟩ := wanted10 (x.fst, x.snd.fst, x.snd.snd.fst, ())
  rw [ha]
  simp only [Option.bind_some]
  cases decide ((x.snd.fst.snd.snd.snd.fst : Int) > 0)
  · simp only [cond_false]
    cases ((a : Int) == x.snd.fst.snd.snd.fst) <;> exact ⟨_, _, rfl⟩
  · exact ⟨_, _, rfl⟩
theorem step {γ : Type} (x : Sh.Ts [CarSh, DriveSh, ControlSh, .int .i64]) (A B C : Option γ) : (Option.bind (fn7 x) fun v1 => Option.bind (fn8 x) fun v2 => bif v1.fst != v2.fst then A else bif v1.snd.fst != v2.snd.fst then B else C) = C := by
  rw [shift]
  obtain ⟨a, b, h⟩ := shift8 x
  simp only [h, Option.bind_some, bne_self_eq_false, cond_false]
theorem true3 (x : Sh.Ts [CarSh, DriveSh, ControlSh]) : fn3 x = some (true, ()) := by
  unfold fn3 law3
  obtain ⟨b, hb⟩ := few6 (x.fst, ())
  rw [hb]
  simp only [Option.bind_some]
  cases b
  · rfl
  simp only [Bool.not_true, cond_false]
  iterate 10 refine (step _ _ _ _).trans ?_
  obtain ⟨a, ha⟩ := wanted10 x
  simp only [wanted, ha, Option.bind_some, BEq.rfl, cond_true]
  have h11 : ∀ y, fn11 y = fn12 y := fun _ => rfl
  simp only [h11]
  have h12 : ∀ y, ∃ a, fn12 y = some (a, ()) := fun y => by
    unfold fn12 law12
    cases decide ((y.fst.snd.snd.snd.fst : Int) > 0)
    · simp only [cond_false]
      cases ((y.fst.snd.snd.fst : Int) == 0) <;> exact ⟨_, rfl⟩
    · exact ⟨_, rfl⟩
  obtain ⟨c, hc⟩ := h12 (x.snd.fst, x.snd.snd.fst.fst, ())
  rw [hc]
  simp only [Option.bind_some, BEq.rfl, cond_true]
theorem apart4 (N0 : Nat) (x : Sh.Ts [CarSh, DriveSh, .sl ControlSh]) (k0 k1 : Option (Sh.Ts [.bool])) (hl : (x.snd.snd.fst.length : Int) ≤ 300) : ∀ (n : Nat) (i g w : Int), 0 ≤ i → i ≤ (x.snd.snd.fst.length : Int) → (x.snd.snd.fst.length : Int) - i < n → 0 ≤ w → w ≤ 1000 → law4o0 N0 x k0 k1 n w i g w = k1
  | 0, i, g, w, _, _, h, _, _ => by omega
  | n + 1, i, g, w, h0, h1, h, hw0, hw1 => by
    unfold law4o0
    by_cases hc : i < (x.snd.snd.fst.length : Int)
    · obtain ⟨v, hv⟩ : ∃ v, x.snd.snd.fst[i.toNat]? = some v := ⟨_, List.getElem?_eq_getElem (by omega)⟩
      have hi : IntKind.i64.wrap (i + 1) = i + 1 := i64_in _ (by omega)
      simp only [hc, h0, decide_true, Bool.and_self, cond_true, hv, Option.bind_some, hi]
      rw [shift]
      unfold fn8 law8
      simp only
      obtain ⟨a, ha⟩ := wanted10 (x.fst, (x.snd.fst.fst, x.snd.fst.snd.fst, g, w, x.snd.fst.snd.snd.snd.snd), v, ())
      rw [ha]
      simp only [Option.bind_some]
      by_cases hw : w > 0
      · have e1 : IntKind.i64.wrap (w - 1) = w - 1 := i64_in _ (by omega)
        simp only [hw, decide_true, cond_true, Option.bind_some, bne_self_eq_false, cond_false, e1]
        rw [if_neg (by omega)]
        exact apart4 N0 x k0 k1 hl n (i + 1) g (w - 1) (by omega) (by omega) (by omega) (by omega) (by omega)
      · have hw2 : w = 0 := by omega
        subst hw2
        simp only [hw, decide_false, cond_false]
        by_cases hag : (a : Int) = g
        · subst hag
          simp only [BEq.rfl, cond_true, Option.bind_some, bne_self_eq_false, cond_false]
          have e2 : (if (0 : Int) > IntKind.i64.wrap (0 - 1) then (0 : Int) else IntKind.i64.wrap (0 - 1)) = 0 := by decide
          rw [e2]
          exact apart4 N0 x k0 k1 hl n (i + 1) a 0 (by omega) (by omega) (by omega) (by omega) (by omega)
        · have e1 : ((a : Int) == g) = false := by simpa using hag
          have e2 : ((a : Int) != g) = true := by simpa using hag
          have e3 : (if (1 : Int) > IntKind.i64.wrap (Int.tdiv 100 4) then (1 : Int) else IntKind.i64.wrap (Int.tdiv 100 4)) = 25 := by decide
          simp only [e1, cond_false, Option.bind_some, e2, cond_true]
          rw [e3]
          exact apart4 N0 x k0 k1 hl n (i + 1) a 25 (by omega) (by omega) (by omega) (by omega) (by omega)
    · simp only [hc, decide_false, cond_false]
theorem true4' (N : Nat) (hN : 1000 ≤ N) (x : Sh.Ts [CarSh, DriveSh, .sl ControlSh]) : law4 N x = some (true, ()) := by
  unfold law4
  obtain ⟨b, hb⟩ := few6 (x.fst, ())
  rw [hb]
  simp only [Option.bind_some]
  cases b
  · rfl
  simp only [Bool.not_true, cond_false]
  by_cases h1 : (x.snd.snd.fst.length : Int) > 300
  · simp only [h1, decide_true, cond_true]
  simp only [h1, decide_false, cond_false]
  by_cases h2 : (x.snd.fst.snd.snd.snd.fst : Int) < 0
  · simp only [h2, decide_true, cond_true]
  simp only [h2, decide_false, cond_false]
  by_cases h3 : (x.snd.fst.snd.snd.snd.fst : Int) > 1000
  · simp only [h3, decide_true, cond_true]
  simp only [h3, decide_false, cond_false]
  rw [apart4 N x _ _ (by omega) N 0 _ (x.snd.fst.snd.snd.snd.fst : Int) (by omega) (by omega) (by omega) (Int.not_lt.mp h2) (Int.not_lt.mp h3)]
  rfl
theorem true4 (x : Sh.Ts [CarSh, DriveSh, .sl ControlSh]) : fn4 x = some (true, ()) := true4' _ (by decide) x
end Go.Proofs.Ytkcmgjbonmalmaa
