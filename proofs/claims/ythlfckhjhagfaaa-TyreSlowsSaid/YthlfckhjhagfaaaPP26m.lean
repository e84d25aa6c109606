/- Plain Lean: what the laws of this program's functions come to, in numbers and lists; no program is run here. -/
import Derived.Test.YthlfckhjhagfaaaPP26f
set_option linter.unusedVariables false
set_option linter.unusedSimpArgs false
set_option maxRecDepth 100000
namespace Go.Proofs.Ythlfckhjhagfaaa
open Go Go.Ab Go.Proofs Go.IntWalk
/- TyreMost in plain Lean (r26): the force is no greater than the whole, but for one. -/
theorem true5 (c : Car) (hok : OkC c) (load grip a b : Int) : fn5 (c, (load, grip, a, b, ()), ()) = some (true, ()) := by
  unfold fn5 law5
  obtain ⟨bb, hb, hf⟩ := ex9 c hok.steer hok.rate
  simp only [hb, Option.bind_some]
  cases bb
  case false => rfl
  have hf := hf rfl
  obtain ⟨t, ht, htt⟩ := right10 c hf load grip a b
  simp only [Bool.not_true, cond_false, ht, Option.bind_some]
  cases t
  case false => rfl
  obtain ⟨hv, hl, hg, ha, hbb⟩ := htt rfl
  obtain ⟨w, r, g, W, p, q, hw, bw, e1, r0, r1, r2, r3, hgd, hW, W0, W1, e, hpq⟩ := force11 c hok hf hv load grip a b hl hg ha hbb
  have hS := sideC hv
  have e0 : fn13 (false, ()) (c.snd.snd.snd.snd.snd.snd.snd.snd.fst, b, ()) = some (res (false, w)) := by
    rw [hw]
    have bw := mulV_in (a := (c.snd.snd.snd.snd.snd.snd.snd.snd.fst : Int)) (b := b) (A := 17179869184) (B := 17179869184) (k := 68719476736) (by omega) hbb (by decide) (by decide) (by decide)
    exact mulE (show I64 (c.snd.snd.snd.snd.snd.snd.snd.snd.fst) by unfold I64; omega) (show I64 b by unfold I64; omega) (by unfold I64; omega)
  have hgb := (tyreC hv).2 r load
  rw [← hgd] at hgb
  have e2 : fn14 (false, ()) (c, load, r, ()) = some (res (false, g)) := by rw [hgd]; exact grip14 c hok hf hv load r (show I64 load by unfold I64; omega) ⟨r0, r1⟩
  have b3 := mulV_in (a := g) (b := grip) (A := 17179869184) (B := 8589934592) (k := 34359738368) (by omega) (by omega) (by decide) (by decide) (by decide)
  have e3 : fn13 (false, ()) (g, grip, ()) = some (res (false, mulV g grip)) := mulE (show I64 g by unfold I64; omega) (show I64 grip by unfold I64; omega) (by unfold I64; omega)
  have e4 : fn13 (false, ()) (load, mulV g grip, ()) = some (res (false, W)) := by
    have := mulE (a := load) (b := mulV g grip) (show I64 load by unfold I64; omega) (show I64 (mulV g grip) by unfold I64; omega) (by rw [← hW]; unfold I64; omega)
    rw [← hW] at this; exact this
  simp only [Bool.not_true, cond_false, e, Option.bind_some, e0, res_1, res_2, e1]
  by_cases k : r < 16777216
  · simp only [k, decide_true, cond_true, Bool.not_false]
  simp only [k, decide_false, cond_false, e2, e3, e4, Option.bind_some, res_1, res_2, Bool.not_false, cond_true]
  have hpb : (-9007199254740992 ≤ p ∧ p ≤ 9007199254740992) ∧ (-9007199254740992 ≤ q ∧ q ≤ 9007199254740992) ∧ p * p + q * q ≤ (W + 4294967296) * (W + 4294967296) := by
    rcases hpq with ⟨h1, h2, _⟩ | ⟨hr, _, h1, h2, h3, h4⟩
    · subst h1; subst h2
      have := sq_nn (W + 4294967296)
      exact ⟨by omega, by omega, by omega⟩
    · refine ⟨h3, h4, ?_⟩
      rw [h1, h2]
      have qa := sq_le (a := a) r0 (by have := sq_nn w; omega)
      have qw := sq_le (a := w) r0 (by have := sq_nn a; omega)
      exact most_sq ⟨W0, W1⟩ (by omega) qa qw r3 (divV_one hr qa) (divV_one hr qw)
  obtain ⟨hp, hq, hm⟩ := hpb
  obtain ⟨R, e5, R0, R1, R2, R3⟩ := len12 false p q (by omega) (by omega)
  have hR : R ≤ W + 4294967296 := le_of_sq (by omega) (by omega)
  simp only [e5, Option.bind_some, res_1, res_2]
  have w1 : IntKind.i64.wrap (W + 4294967296) = W + 4294967296 := i64_in _ (by omega)
  simp only [w1, hR, decide_true, cond_true]
theorem true5o (y : Sh.Ts [CarSh, .st [.int .i64, .int .i64, .int .i64, .int .i64]]) (hy : Sh.oks [CarSh, .st [.int .i64, .int .i64, .int .i64, .int .i64]] y) : fn5 y = some (true, ()) := true5 y.1 (okC hy.1) y.2.1.1 y.2.1.2.1 y.2.1.2.2.1 y.2.1.2.2.2.1

end Go.Proofs.Ythlfckhjhagfaaa
