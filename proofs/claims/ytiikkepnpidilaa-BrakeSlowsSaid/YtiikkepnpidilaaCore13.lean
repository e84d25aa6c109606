/-
  CORE 13: the two laws of a region.
-/
import Derived.Test.YtiikkepnpidilaaCore12
set_option linter.unusedVariables false
set_option linter.unusedSimpArgs false
namespace Go.Ab

theorem foldT_none (S : Nat → Bool) : ∀ (l : List Did) (i : Nat) (t : List AV), (∀ j, i ≤ j → S j = false) → foldT S i l t = t
  | [], i, t, _ => rfl
  | d :: l, i, t, h => by simp only [foldT, h i (Nat.le_refl _)]; exact foldT_none S l (i + 1) t fun j hj => h j (by omega)
theorem foldH_none (S : Nat → Bool) : ∀ (l : List Did) (i : Nat) (t : Heap), (∀ j, i ≤ j → S j = false) → foldH S i l t = t
  | [], i, t, _ => rfl
  | d :: l, i, t, h => by simp only [foldH, h i (Nat.le_refl _)]; exact foldH_none S l (i + 1) t fun j hj => h j (by omega)

theorem goodAll_at {P : Program} {ops : Array Oper} : ∀ (l : List Did) (k : Nat) (t : List AV) (h : Heap), GoodAll P ops k t h l →
    endT t l = foldT (fun _ => true) k l t ∧ endH h l = foldH (fun _ => true) k l h ∧
    ∀ i d, l[i]? = some d → Good P ops (k + i) (foldT (fun j => decide (j < k + i)) k l t) (foldH (fun j => decide (j < k + i)) k l h) d
  | [], k, t, h, _ => ⟨rfl, rfl, fun i d hi => by simp at hi⟩
  | d0 :: l, k, t, h, hg => by
    obtain ⟨h2, h3, h4⟩ := goodAll_at l (k + 1) _ _ hg.2
    refine ⟨by simpa [foldT, endT] using h2, by simpa [foldH, endH] using h3, fun i d hi => ?_⟩
    cases i with
    | zero =>
      simp at hi; subst hi
      rw [foldT_none _ _ _ _ (by intro j hj; simp; omega), foldH_none _ _ _ _ (by intro j hj; simp; omega)]
      exact hg.1
    | succ i =>
      have h5 := h4 i d (by simpa using hi)
      simp only [foldT, foldH]
      have e : decide (k < k + (i + 1)) = true := by simp
      rw [if_pos e, if_pos e]
      rw [show k + (i + 1) = k + 1 + i by omega]
      exact h5

theorem confs_spec {dids : List Did} {ms : List Nat} (h : confs dids ms = true) {i k m : Nat} {x y : Did} (hk : k < i) (hy : dids[i]? = some y) (hx : dids[k]? = some x) (hm : ms[i]? = some m) : m.testBit k = true ∨ noconf x y = true := by
  unfold confs at h
  have h1 : (dids.zip ms).zipIdx[i]? = some ((y, m), i) := by
    rw [List.getElem?_zipIdx]
    have : (dids.zip ms)[i]? = some (y, m) := by rw [List.getElem?_zip_eq_some]; exact ⟨hy, hm⟩
    rw [this]; simp
  have h2 := List.all_eq_true.1 h _ (List.mem_of_getElem? h1)
  have h3 : (dids.take i).zipIdx[k]? = some (x, k) := by
    rw [List.getElem?_zipIdx, List.getElem?_take, if_pos hk, hx]; simp
  have h4 := List.all_eq_true.1 h2 _ (List.mem_of_getElem? h3)
  simpa using h4

theorem lastW_mem : ∀ (wb : List (Nat × Ent)) (x : Nat), lastW wb x ≠ none → ∃ e, (x, e) ∈ wb
  | [], x, h => absurd rfl h
  | (b, e) :: l, x, h => by
    simp only [lastW] at h
    by_cases hx : x = b
    · subst hx; exact ⟨e, List.mem_cons_self ..⟩
    · rw [if_neg hx] at h
      cases hl : lastW l x with
      | none => simp [hl] at h
      | some e' =>
        obtain ⟨e2, h2⟩ := lastW_mem l x (by simp [hl])
        exact ⟨e2, List.mem_cons_of_mem _ h2⟩

theorem noconf_spec {x y : Did} (h : noconf x y = true) :
    (∀ d, x.ws = some d → d ∉ y.rs) ∧ (∀ d, x.ws = some d → y.ws ≠ some d) ∧ (∀ d, y.ws = some d → d ∉ x.rs) ∧
    (∀ b, x.writes b → b ∉ y.reads) ∧ (∀ b, x.writes b → ¬ y.writes b) ∧ (∀ b, y.writes b → b ∉ x.reads) := by
  unfold noconf at h
  simp only [Bool.and_eq_true, List.all_eq_true, Bool.not_eq_true', bne_iff_ne, ne_eq] at h
  obtain ⟨⟨⟨h1, h2⟩, h3⟩, h4⟩ := h
  refine ⟨fun d hd => ?_, fun d hd => ?_, fun d hd => ?_, fun b hb => ?_, fun b hb hb' => ?_, fun b hb => ?_⟩
  · rw [hd] at h1
    simp at h1; exact h1.1
  · rw [hd] at h1
    simp at h1; exact h1.2
  · rw [hd] at h2
    simp at h2; exact h2
  · obtain ⟨e, he⟩ := lastW_mem _ _ hb
    have := (h3 _ he).1
    simpa using this
  · obtain ⟨e, he⟩ := lastW_mem _ _ hb
    obtain ⟨e', he'⟩ := lastW_mem _ _ hb'
    exact (h3 _ he).2 _ he' rfl
  · obtain ⟨e, he⟩ := lastW_mem _ _ hb
    have := h4 _ he
    simpa using this

theorem wpAny_drawn {P : Program} {Γ : Ctx} {ops : Array Oper} {Q : Exit → Act → World → Prop} {t : List AV} {h : Heap} {dids : List Did} (hlen : dids.length = ops.size) (hr : GoodAll P ops 0 t h dids) (hn : Γ.n0 ≤ h.length)
    {ms : List Nat} (hms : masks ops.toList [] = some ms) (hc : confs dids ms = true)
    (hQ : ∀ ρ' w' a', Inv Γ ρ' (endH h dids) w' → VRs ρ' (endT t dids) a'.tmps.toList → a'.defers = [] → Q .normal a' w') :
    ∀ (fuel : Nat) (listed : Array Bool), listed.size = ops.size → listed.toList.count false ≤ fuel →
      (∀ i o, listed.getD i false = true → ops[i]? = some o → ∀ e ∈ o.after, Region.binds .any e = true → listed.getD e.on false = true) →
      ∀ ρ w a, Inv Γ ρ (foldH (fun i => listed.getD i false) 0 dids h) w → VRs ρ (foldT (fun i => listed.getD i false) 0 dids t) a.tmps.toList → a.defers = [] → wpAny P .any ops Q fuel listed a w := by
  obtain ⟨htt, hhh, hat⟩ := goodAll_at dids 0 t h hr
  obtain ⟨m1, _, m3⟩ := masks_spec _ _ _ hms
  -- all are listed where none is ready
  have allDone : ∀ listed : Array Bool, listed.size = ops.size → Region.ready .any ops listed = [] → ∀ i, i < ops.size → listed.getD i false = true := by
    intro listed hsz hrd i
    induction i using Nat.strongRecOn with
    | _ i ih =>
      intro hi
      cases hb : listed.getD i false with
      | true => rfl
      | false =>
        exfalso
        have hmem : i ∈ Region.ready .any ops listed := by
          refine mem_ready.2 ⟨?_, ops[i], Array.getElem?_eq_getElem hi, fun e he hb' => ?_⟩
          · have : i < listed.size := by omega
            simp [Array.getD, this] at hb ⊢
            exact hb
          · have hlt := (m3 i ops[i] (by simp [hi])).1 e he hb'
            simp at hlt
            exact ih e.on hlt (by omega)
        rw [hrd] at hmem; cases hmem
  have finish : ∀ (listed : Array Bool), listed.size = ops.size → (∀ i, i < ops.size → listed.getD i false = true) → ∀ ρ w a, Inv Γ ρ (foldH (fun i => listed.getD i false) 0 dids h) w → VRs ρ (foldT (fun i => listed.getD i false) 0 dids t) a.tmps.toList → a.defers = [] → Q .normal a w := by
    intro listed hsz hall ρ w a hI hV hd
    have hSk : ∀ k d, dids[k]? = some d → listed.getD (0 + k) false ≠ true → False := fun k d hk hne => by
      have : k < dids.length := by
        rcases Nat.lt_or_ge k dids.length with h' | h'
        · exact h'
        · simp [List.getElem?_eq_none h'] at hk
      rw [hlen] at this
      exact hne (by rw [Nat.zero_add]; exact hall k (by simpa using this))
    refine hQ ρ w a (hI.congr fun b => ?_) ?_ hd
    · rw [hhh]
      exact (foldH_agree _ _ b dids 0 h h rfl fun k d hk hne => absurd (hSk k d hk hne) id).symm
    · rw [htt]
      have : foldT (fun _ => true) 0 dids t = foldT (fun i => listed.getD i false) 0 dids t := by
        apply List.ext_getElem?
        intro x
        exact (foldT_agree _ _ x dids 0 t t rfl rfl fun k d hk hne => absurd (hSk k d hk hne) id).symm
      rw [this]; exact hV
  intro fuel
  induction fuel with
  | zero =>
    intro listed hsz hcnt hcl ρ w a hI hV hd
    have hall : ∀ i, i < ops.size → listed.getD i false = true := fun i hi => by
      have h0 : listed.toList.count false = 0 := by omega
      rw [List.count_eq_zero] at h0
      have hi' : i < listed.size := by omega
      cases hb : listed.getD i false with
      | true => rfl
      | false =>
        simp [Array.getD, hi'] at hb
        exact absurd (by rw [← hb]; exact Array.getElem_mem_toList hi') h0
    refine ⟨?_, finish listed hsz hall ρ w a hI hV hd⟩
    apply List.eq_nil_iff_forall_not_mem.2
    intro i hi
    obtain ⟨h1, o, h2, _⟩ := mem_ready.1 hi
    have hlt : i < ops.size := by
      rcases Nat.lt_or_ge i ops.size with h' | h'
      · exact h'
      · simp [Array.getElem?_eq_none h'] at h2
    have := hall i hlt
    have hi' : i < listed.size := by omega
    simp [Array.getD, hi'] at h1 this
    rw [this] at h1; cases h1
  | succ fuel ih =>
    intro listed hsz hcnt hcl ρ w a hI hV hd
    refine ⟨fun hrd => finish listed hsz (allDone listed hsz hrd) ρ w a hI hV hd, fun i hi => ?_⟩
    obtain ⟨hun, o, ho, hpre⟩ := mem_ready.1 hi
    have hlt : i < ops.size := by
      rcases Nat.lt_or_ge i ops.size with h' | h'
      · exact h'
      · simp [Array.getElem?_eq_none h'] at ho
    have hil : i < listed.size := by omega
    have hSi : listed.getD i false = false := by simpa [Array.getD, hil] using hun
    obtain ⟨did, hdid⟩ : ∃ d, dids[i]? = some d := ⟨dids[i]'(by omega), List.getElem?_eq_getElem _⟩
    have hst := hat i did hdid
    simp only [Nat.zero_add] at hst
    obtain ⟨mi, hmi⟩ : ∃ m, ms[i]? = some m := ⟨ms[i]'(by simp at m1; omega), List.getElem?_eq_getElem _⟩
    have didlt : ∀ k d, dids[k]? = some d → k < ops.size := fun k d hk => by
      rcases Nat.lt_or_ge k dids.length with h' | h'
      · rw [hlen] at h'; simpa using h'
      · simp [List.getElem?_eq_none h'] at hk
    have closed := closed_mask hms (S := fun i => listed.getD i false) hcl
    -- those ahead of i are done
    have ahead : ∀ k, mi.testBit k = true → listed.getD k false = true := by
      intro k hk
      obtain ⟨e, he, hb, h6⟩ := (m3 i o (by simpa using ho)).2 mi (by simpa using hmi) k hk
      have hSe := hpre e he hb
      rcases h6 with h6 | ⟨m', h7, h8⟩
      · rw [← h6]; exact hSe
      · exact closed (e.on + 1) e.on (by omega) hSe m' h7 k h8
    -- one of another side does not touch i
    have before_i : ∀ k d, dids[k]? = some d → k < i → listed.getD k false = false → noconf d did = true := by
      intro k d hk hki hSk
      rcases confs_spec hc hki hdid hk hmi with h1 | h1
      · rw [ahead k h1] at hSk; cases hSk
      · exact h1
    have behind_i : ∀ k d, dids[k]? = some d → i < k → listed.getD k false = true → noconf did d = true := by
      intro k d hk hki hSk
      obtain ⟨mk, hmk⟩ : ∃ m, ms[k]? = some m := ⟨ms[k]'(by have := didlt k d hk; simp at m1; omega), List.getElem?_eq_getElem _⟩
      rcases confs_spec hc hki hk hdid hmk with h1 | h1
      · have := closed (k + 1) k (by omega) hSk mk hmk i h1
        rw [show listed.getD i false = true from this] at hSi; cases hSi
      · exact h1
    have differ : ∀ k d, dids[k]? = some d → (listed.getD (0 + k) false) ≠ decide (0 + k < i) → (k < i ∧ noconf d did = true) ∨ (i < k ∧ noconf did d = true) := by
      intro k d hk hne
      simp only [Nat.zero_add] at hne
      cases hSk : listed.getD k false with
      | false =>
        rw [hSk] at hne
        have hki : k < i := by
          rcases Nat.lt_or_ge k i with h' | h'
          · exact h'
          · exfalso; apply hne; simp; omega
        exact .inl ⟨hki, before_i k d hk hki hSk⟩
      | true =>
        rw [hSk] at hne
        have hki : i ≤ k := by
          rcases Nat.lt_or_ge k i with h' | h'
          · exfalso; apply hne; simp [h']
          · exact h'
        have : i ≠ k := fun e => by subst e; rw [hSi] at hSk; cases hSk
        exact .inr ⟨by omega, behind_i k d hk (by omega) hSk⟩
    have blocks_agree : ∀ b, b ∈ did.reads → (foldH (fun i => listed.getD i false) 0 dids h).get b = (foldH (fun j => decide (j < i)) 0 dids h).get b := by
      intro b hb
      refine foldH_agree _ _ b dids 0 h h rfl fun k d hk hne hw => ?_
      rcases differ k d hk hne with ⟨_, hnc⟩ | ⟨_, hnc⟩
      · exact (noconf_spec hnc).2.2.2.1 b hw hb
      · exact (noconf_spec hnc).2.2.2.2.2 b hw hb
    have agree : Agree did (foldT (fun j => decide (j < i)) 0 dids t) (foldT (fun i => listed.getD i false) 0 dids t) (foldH (fun j => decide (j < i)) 0 dids h) (foldH (fun i => listed.getD i false) 0 dids h) := by
      refine ⟨fun x hx => ?_, fun b hb => blocks_agree b (List.mem_append.2 (.inl hb)), fun x h1 h2 => ?_⟩
      · simp only [List.getD_eq_getElem?_getD]
        rw [foldT_agree (fun i => listed.getD i false) (fun j => decide (j < i)) x dids 0 t t rfl rfl fun k d hk hne hw => ?_]
        rcases differ k d hk hne with ⟨_, hnc⟩ | ⟨_, hnc⟩
        · exact (noconf_spec hnc).1 x hw hx
        · exact (noconf_spec hnc).2.2.1 x hw hx
      · rw [blocks_agree x (List.mem_append.2 (.inr (by simp [List.mem_range'_1]; omega)))]
        exact get_beyond _ _ (by rw [hst.new] at h1; exact h1)
    have hnb : Γ.n0 ≤ (foldH (fun j => decide (j < i)) 0 dids h).length := by
      have : ∀ (S : Nat → Bool) (l : List Did) (k : Nat) (h : Heap), h.length ≤ (foldH S k l h).length := by
        intro S l
        induction l with
        | nil => intro k h; exact Nat.le_refl _
        | cons d l ih2 =>
          intro k h
          simp only [foldH]
          refine Nat.le_trans ?_ (ih2 (k + 1) _)
          split
          · exact Heap.upds_length _ _
          · exact Nat.le_refl _
      exact Nat.le_trans hn (this _ _ _ _)
    refine hst.ok Γ _ _ agree hnb ρ _ a hI hV hd Q _ fun ρ' w' a' h1 h2 h3 => ?_
    have hS' : ∀ k, (listed.setIfInBounds i true).getD k false = (if k = i then true else listed.getD k false) := fun k => by
      simp only [Array.getD_eq_getD_getElem?]
      by_cases hk : k = i
      · subst hk; rw [Array.getElem?_setIfInBounds_self_of_lt hil]; simp
      · rw [Array.getElem?_setIfInBounds_ne (fun e => hk e.symm), if_neg hk]
    refine ih (listed.setIfInBounds i true) (by simpa using hsz) ?_ ?_ ρ' w' a' ?_ ?_ h3
    · rw [Array.toList_setIfInBounds]
      have hi2 : i < listed.toList.length := by simpa using hil
      have hv : listed.toList[i] = false := by
        have := hSi
        simp [Array.getD, hil] at this
        simpa using this
      rw [List.count_set hi2, hv]
      have hpos : 0 < listed.toList.count false := List.count_pos_iff.2 (by rw [← hv]; exact List.getElem_mem hi2)
      have e1 : ((false == false) = true) := rfl
      have e2 : ((true == false) = true) ↔ False := by simp
      rw [if_pos e1, if_neg (by simp)]
      omega
    · intro k o' hk ho' e he hb
      rw [hS'] at hk ⊢
      by_cases hke : e.on = i
      · rw [if_pos hke]
      · rw [if_neg hke]
        by_cases hki : k = i
        · subst hki
          rw [ho] at ho'; injection ho' with ho'; subst ho'
          exact hpre e he hb
        · rw [if_neg hki] at hk
          exact hcl k o' hk ho' e he hb
    · refine h1.congr fun b => ?_
      simp only [Did.h, get_upds']
      cases hw : lastW did.wb b with
      | some e =>
        rw [foldH_last (fun k => (listed.setIfInBounds i true).getD k false) b did e hw dids 0 i h hdid (by simp only [Nat.zero_add]; rw [hS', if_pos rfl]) fun k d' hk hd' hSk hwr => ?_]
        · rfl
        · simp only [Nat.zero_add] at hSk
          rw [hS', if_neg (by omega)] at hSk
          exact (noconf_spec (behind_i k d' hd' hk hSk)).2.2.2.2.1 b (by unfold Did.writes; rw [hw]; simp) hwr
      | none =>
        simp only [Option.getD_none]
        refine foldH_agree _ _ b dids 0 h h rfl fun k d hk hne hwr => ?_
        simp only [Nat.zero_add] at hne
        rw [hS'] at hne
        by_cases hki : k = i
        · subst hki
          rw [hdid] at hk; injection hk with hk; subst hk
          exact hwr hw
        · rw [if_neg hki] at hne; exact hne rfl
    · have : foldT (fun k => (listed.setIfInBounds i true).getD k false) 0 dids t = did.t (foldT (fun i => listed.getD i false) 0 dids t) := by
        apply List.ext_getElem?
        intro x
        by_cases hw : did.ws = some x
        · by_cases hx : x < t.length
          · rw [foldT_last (fun k => (listed.setIfInBounds i true).getD k false) x did hw dids 0 i t hdid (by simp only [Nat.zero_add]; rw [hS', if_pos rfl]) (fun k d' hk hd' hSk hwr => by
              simp only [Nat.zero_add] at hSk
              rw [hS', if_neg (by omega)] at hSk
              exact (noconf_spec (behind_i k d' hd' hk hSk)).2.1 x hw hwr) hx]
            simp only [Did.t, hw, putT]
            rw [List.getElem?_set_self (by rw [foldT_length]; exact hx)]
          · rw [List.getElem?_eq_none (by rw [foldT_length]; omega), List.getElem?_eq_none (by simp only [Did.t, putT_length, foldT_length]; omega)]
        · rw [show (did.t (foldT (fun i => listed.getD i false) 0 dids t))[x]? = (foldT (fun i => listed.getD i false) 0 dids t)[x]? from putT_get _ _ _ _ hw]
          refine foldT_agree _ _ x dids 0 t t rfl rfl fun k d hk hne hwr => ?_
          simp only [Nat.zero_add] at hne
          rw [hS'] at hne
          by_cases hki : k = i
          · subst hki
            rw [hdid] at hk; injection hk with hk; subst hk
            exact hw hwr
          · rw [if_neg hki] at hne; exact hne rfl
      rw [this]; exact h2

/-- A region: the text's order, and, where an order is drawn, that it makes no difference. -/
theorem region_ok {P : Program} (hm : P.follows .mixedOrders = true) {Γ : Ctx} {id : Nat} {ops : Array Oper} {draw : Bool} {Q : Exit → Act → World → Prop} {t : List AV} {h : Heap} {dids : List Did} (hlen : dids.length = ops.size) (hr : GoodAll P ops 0 t h dids)
    (hdr : draw = true → ∃ ms, masks ops.toList [] = some ms ∧ confs dids ms = true) (hn : Γ.n0 ≤ h.length)
    {ρ : Ren} {w : World} {a : Act} (hI : Inv Γ ρ h w) (hV : VRs ρ t a.tmps.toList) (hd : a.defers = [])
    (hQ : ∀ ρ' w' a', Inv Γ ρ' (endH h dids) w' → VRs ρ' (endT t dids) a'.tmps.toList → a'.defers = [] → Q .normal a' w') : (Code.region id ops draw).wp P Q a w := by
  cases draw with
  | false =>
    refine wp_region ?_
    have := goodAll_seq (Q := Q) dids 0 t h hr hn ρ w a hI hV hd hQ
    rw [List.range_eq_range', ← hlen]
    exact this
  | true =>
    obtain ⟨ms, hms, hc⟩ := hdr rfl
    refine wp_region_any hm ?_
    refine wpAny_drawn hlen hr hn hms hc hQ ops.size _ (by simp) (by simp) (fun i o hi => ?_) ρ _ a ?_ ?_ hd
    · simp [Array.getD] at hi
    · rw [foldH_none _ _ _ _ (by intro j _; simp [Array.getD])]
      exact hI.of_heap rfl rfl rfl rfl
    · rw [foldT_none _ _ _ _ (by intro j _; simp [Array.getD])]
      exact hV

end Go.Ab
