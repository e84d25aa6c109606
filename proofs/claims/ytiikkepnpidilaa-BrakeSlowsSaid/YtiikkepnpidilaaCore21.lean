/-
  CORE 21: loops: round by round, the state brought into one form ahead of each; what lies behind a piece of code.
-/
import Derived.Test.YtiikkepnpidilaaCore20
set_option linter.unusedVariables false
set_option linter.unusedSimpArgs false
namespace Go.Ab

/-- One round: A is what comes behind it where it goes on, K where it ends. The loop's own inner loops are told by L (places in the body). -/
def roundK {β : Type} (P : Program) (env : Env P) (n0 fuel : Nat) (L : Loops P) (b : Code) (keep : List Nat) (keepX : Exit → List Nat) (A : List AV → Heap → Option β) (K : Exit → List AV → Heap → Option β) (t : List AV) (h : Heap) : Option β :=
  codeK P env n0 fuel L [] (.code b) t h fun e t' h' => match e with
    | .normal => gcK n0 keep t' h' A
    | e => gcK n0 (keepX e) t' h' fun t2 h2 => K e t2 h2
/-- What lies behind a round. -/
def roundEnd {β : Type} (n0 : Nat) (keep : List Nat) (keepX : Exit → List Nat) (A : List AV → Heap → Option β) (K : Exit → List AV → Heap → Option β) : Exit → List AV → Heap → Option β := fun e t' h' => match e with
    | .normal => gcK n0 keep t' h' A
    | e => gcK n0 (keepX e) t' h' fun t2 h2 => K e t2 h2
/-- n rounds at the most. -/
def loopN {β : Type} (P : Program) (env : Env P) (n0 fuel : Nat) (L : Loops P) (b : Code) (keep : List Nat) (keepX : Exit → List Nat) : Nat → List AV → Heap → (Exit → List AV → Heap → Option β) → Option β
  | 0, _, _, _ => none
  | n + 1, t, h, K => roundK P env n0 fuel L b keep keepX (fun t2 h2 => loopN P env n0 fuel L b keep keepX n t2 h2 K) K t h

theorem loopN_ok {β : Type} {P : Program} (hm : P.follows .mixedOrders = true) {env : Env P} {n0 fuel : Nat} {L : Loops P} {b : Code} (hL : L.fit b) {keep : List Nat} {keepX : Exit → List Nat} {K : Exit → List AV → Heap → Option β} {r : β} :
    ∀ (n : Nat) (t : List AV) (h : Heap), n0 ≤ h.length → loopN P env n0 fuel L b keep keepX n t h K = some r → ∃ e t' h', K e t' h' = some r ∧ ∃ m, Rounds P n0 m b t h e t' h'
  | 0, t, h, _, hs => by simp [loopN] at hs
  | n + 1, t, h, hn, hs => by
    simp only [loopN, roundK] at hs
    obtain ⟨e, t1, h1, hk, hn1, hg⟩ := codeK_ok hm fuel L [] (.code b) t h _ b hL (.inr rfl) hn hs
    have leave : e ≠ .normal → gcK n0 (keepX e) t1 h1 (fun t2 h2 => K e t2 h2) = some r → ∃ e t' h', K e t' h' = some r ∧ ∃ m, Rounds P n0 m b t h e t' h' := by
      intro he hs
      obtain ⟨t2, h2, hk2, hn2, σ, l, hw, hob⟩ := gcK_ok hs
      exact ⟨e, t2, h2, hk2, 1, Rounds.leave (Runs.weak hg hw hob hn2) he⟩
    cases e with
    | normal =>
      simp only at hk
      obtain ⟨t2, h2, hk2, hn2, σ, l, hw, hob⟩ := gcK_ok hk
      obtain ⟨e, t3, h3, hk3, m, hr⟩ := loopN_ok hm hL n t2 h2 hn2 hk2
      exact ⟨e, t3, h3, hk3, m + 1, Rounds.step hg hw hob hr⟩
    | _ => exact leave (by simp) hk

theorem Runs.weak_in {P : Program} {n0 : Nat} {c : Code} {t t2 t' : List AV} {h h2 h' : Heap} {e : Exit} (hr : Runs P n0 c t2 h2 e t' h') {σ : List Nat} {l : List Ob} (hw : weakObs n0 σ t t2 h h2 = some l) (hob : ∀ p ∈ l, p.holds) : Runs P n0 c t h e t' h' := by
  refine ⟨hr.1, fun Γ hΓ ρ w a hI hV hd => ?_⟩
  obtain ⟨_, ρ2, g1, g2⟩ := weak_ok hw hob hΓ hI hV
  exact hr.2 Γ hΓ ρ2 w a g1 g2 hd

/-- A loop's summary: its rounds. -/
def loopSumm {P : Program} (hm : P.follows .mixedOrders = true) (env : Env P) (fuel : Nat) (L : Loops P) (b : Code) (hL : L.fit b) (keep : List Nat) (keepX : Exit → List Nat) (N : Nat) : LSumm P where
  b := b
  S := fun n0 t h K => gcK n0 keep t h fun t2 h2 => loopN P env n0 fuel L b keep keepX N t2 h2 K
  ok := by
    intro β n0 t h K r hn hs
    obtain ⟨t2, h2, hk2, hn2, σ, l, hw, hob⟩ := gcK_ok hs
    obtain ⟨e, t3, h3, hk3, m, hr⟩ := loopN_ok hm hL N t2 h2 hn2 hk2
    exact ⟨e, t3, h3, hk3, Runs.weak_in (Runs.of_rounds hr) hw hob⟩

/-- What lies behind the first of two pieces; behind a block's inside. -/
def seqK {β : Type} (P : Program) (env : Env P) (n0 f : Nat) (L : Loops P) (p : List Nat) (b : Code) (K : Exit → List AV → Heap → Option β) : Exit → List AV → Heap → Option β := fun e t' h' => match e with
    | .normal => codeK P env n0 f L p (.code b) t' h' K
    | e => K e t' h'
def blkK {β : Type} (id : Nat) (K : Exit → List AV → Heap → Option β) : Exit → List AV → Heap → Option β := fun e t' h' => K (blockExit id e) t' h'
/-- What lies behind the piece of code at a place (told from the place outwards), its end being handed on to K. -/
def restK {β : Type} (P : Program) (env : Env P) (n0 F : Nat) (L : Loops P) (C : Code) (K : Exit → List AV → Heap → Option β) : List Nat → Exit → List AV → Heap → Option β
  | [] => K
  | i :: p => match subAt C p with
    | some (.seq a b) => (match i with
      | 0 => fun e t' h' => match e with
        | .normal => codeK P env n0 (F - p.length - 1) L (1 :: p) (.code b) t' h' (restK P env n0 F L C K p)
        | e => restK P env n0 F L C K p e t' h'
      | _ => restK P env n0 F L C K p)
    | some (.block id b) => fun e t' h' => restK P env n0 F L C K p (blockExit id e) t' h'
    | _ => restK P env n0 F L C K p

end Go.Ab
