/-
  Bracket: the plain model: how many matches are not decided; the bracket in which the better one always wins.
-/
import Derived.Test.YtphlpclhmodekaaDoorLr
set_option linter.unusedVariables false
set_option linter.unusedSimpArgs false
namespace Go.Proofs.YtphlpclhmodekaaDoor

/-- how many of the first n matches are not decided -/
def cntF (f : Nat → Nat) : Nat → Nat
  | 0 => 0
  | n + 1 => cntF f n + (if f n = 0 then 1 else 0)

theorem cnt_upd {f : Nat → Nat} {m v : Nat} (h : f m = 0) (hv : v ≠ 0) : ∀ n, cntF (upd f m v) n + (if m < n then 1 else 0) = cntF f n
  | 0 => by simp [cntF]
  | n + 1 => by
    have ih := cnt_upd h hv n
    unfold cntF
    by_cases e : n = m
    · subst e
      rw [upd_same, if_neg hv, if_pos h]
      rw [if_neg (show ¬ n < n by omega)] at ih
      rw [if_pos (show n < n + 1 by omega)]
      omega
    · rw [upd_ne _ _ e]
      by_cases l : m < n
      · rw [if_pos l] at ih; rw [if_pos (show m < n + 1 by omega)]; omega
      · rw [if_neg l] at ih; rw [if_neg (show ¬ m < n + 1 by omega)]; omega
theorem cnt_zero {f : Nat → Nat} : ∀ {n}, cntF f n = 0 → ∀ m, m < n → f m ≠ 0
  | 0, _, m, hm => by omega
  | n + 1, h, m, hm => by
    unfold cntF at h
    by_cases e : m = n
    · subst e; intro he; rw [if_pos he] at h; omega
    · exact cnt_zero (n := n) (by omega) m (by omega)
theorem cnt_none {f : Nat → Nat} : ∀ {n}, (∀ m, m < n → f m ≠ 0) → cntF f n = 0
  | 0, _ => rfl
  | n + 1, h => by
    unfold cntF
    rw [cnt_none (fun m hm => h m (by omega)), if_neg (h n (by omega))]
theorem cnt_least {f : Nat → Nat} : ∀ {n}, cntF f n ≠ 0 → ∃ m, m < n ∧ f m = 0 ∧ ∀ i, i < m → f i ≠ 0
  | 0, h => (h rfl).elim
  | n + 1, h => by
    by_cases e : cntF f n = 0
    · refine ⟨n, by omega, ?_, cnt_zero e⟩
      by_cases he : f n = 0
      · exact he
      · unfold cntF at h; rw [e, if_neg he] at h; exact (h rfl).elim
    · obtain ⟨m, a, b⟩ := cnt_least e
      exact ⟨m, by omega, b⟩

/-- the first match that is not decided is open -/
theorem open_least {k E : Nat} {f : Nat → Nat} (hz : Sz k E) (h : WF k E f) {m : Nat} (h1 : m + 1 < 2 ^ k) (h0 : f m = 0) (hl : ∀ i, i < m → f i ≠ 0) : openF k E f m = true := by
  refine openF_iff.mpr ⟨h0, ?_⟩
  by_cases hm : 2 * m < 2 ^ k
  · rw [seats_first f hm]
    refine ⟨ent_even hz m, ?_⟩
    have hb : ¬ byeF k E m = true := fun hb => by have := h.bye m hb; omega
    rw [byeF_iff hz] at hb
    have := ent_cases k E (2 * m + 1)
    show 0 ≤ ent k E _
    omega
  · rw [seats_later f hm h1]
    exact ⟨h.win hz (by omega) (hl _ (by omega)), h.win hz (by omega) (hl _ (by omega))⟩

/-- the final is decided only when all is decided -/
theorem all_of_final {k E : Nat} {f : Nat → Nat} (hz : Sz k E) (h : WF k E f) (hf : f (2 ^ k - 2) ≠ 0) : ∀ d m, m + d + 2 = 2 ^ k → f m ≠ 0 := by
  obtain ⟨H, hH, h1, _⟩ := hz.pow
  intro d
  induction d using Nat.strongRecOn with
  | _ d ih =>
    intro m hm
    by_cases e : d = 0
    · subst e; rw [show m = 2 ^ k - 2 by omega]; exact hf
    · have hn := ih (2 ^ k - 2 - nextF k m) (by unfold nextF; omega) (nextF k m) (by unfold nextF; omega)
      have hn2 : ¬ 2 * nextF k m < 2 ^ k := by unfold nextF; omega
      have hn1 : nextF k m + 1 < 2 ^ k := by unfold nextF; omega
      have hb : byeF k E (nextF k m) = false := by simp [byeF, hn2]
      have ⟨a, b⟩ := h.two _ hn1 hb hn
      rw [seats_later f hn2 hn1] at a b
      have a' : 0 ≤ winF k E f (2 * nextF k m - 2 ^ k) := a
      have b' : 0 ≤ winF k E f (2 * nextF k m - 2 ^ k + 1) := b
      intro he
      by_cases hp : m % 2 = 0
      · rw [show 2 * nextF k m - 2 ^ k = m by unfold nextF; omega, winF_none he] at a'; omega
      · rw [show 2 * nextF k m - 2 ^ k + 1 = m by unfold nextF; omega, winF_none he] at b'; omega

/-- the open matches -/
def openL (k E : Nat) (f : Nat → Nat) (n : Nat) : List Nat := (List.range n).filter fun m => openF k E f m
theorem mem_openL {k E : Nat} {f : Nat → Nat} {n m : Nat} : m ∈ openL k E f n ↔ m < n ∧ openF k E f m = true := by simp [openL]
theorem openL_succ (k E : Nat) (f : Nat → Nat) (n : Nat) : openL k E f (n + 1) = if openF k E f n then openL k E f n ++ [n] else openL k E f n := by
  unfold openL
  rw [List.range_succ, List.filter_append]
  by_cases h : openF k E f n = true
  · simp [h]
  · simp [h]

theorem openL_ne {k E : Nat} {f : Nat → Nat} (hz : Sz k E) (h : WF k E f) (hc : cntF f (2 ^ k - 1) ≠ 0) : openL k E f (2 ^ k - 1) ≠ [] := by
  obtain ⟨m, hm, h0, hl⟩ := cnt_least hc
  have := mem_openL.mpr ⟨hm, open_least hz h (by omega) h0 hl⟩
  intro he; rw [he] at this; cases this
theorem openL_nil {k E : Nat} {f : Nat → Nat} (hc : cntF f (2 ^ k - 1) = 0) : openL k E f (2 ^ k - 1) = [] := by
  unfold openL
  rw [List.filter_eq_nil_iff]
  intro m hm
  have := cnt_zero hc m (by simpa using hm)
  simp [openF, this]

/-- a new bracket has one match less than entrants -/
def cntOk : Bool := (List.range 7).all fun k => k == 0 || (List.range 65).all fun E => !(decide (2 ^ k < 2 * E) && decide (E ≤ 2 ^ k)) || cntF (freshF k E) (2 ^ k - 1) + 1 == E
theorem cntOk_true : cntOk = true := by decide +kernel
theorem cnt_fresh {k E : Nat} (hz : Sz k E) : cntF (freshF k E) (2 ^ k - 1) + 1 = E := by
  have h := cntOk_true
  unfold cntOk at h
  rw [List.all_eq_true] at h
  have h1 := h k (by have := hz.six; simp; omega)
  have hk : (k == 0) = false := by have := hz.one; simp; omega
  rw [hk, Bool.false_or, List.all_eq_true] at h1
  have hE : E ≤ 64 := by
    have := hz.hi
    have := pow_le' hz.six
    omega
  have h2 := h1 E (by simp; omega)
  simp only [hz.lo, hz.hi, decide_true, Bool.and_self, Bool.not_true, Bool.false_or, beq_iff_eq] at h2
  exact h2

/-- the better one always wins: who has a seat -/
structure Best (k E : Nat) (g : Nat → Nat) : Prop where
  wf : WF k E g
  one : ∀ m, g m ≤ 1
theorem Best.fresh {k E : Nat} (hz : Sz k E) : Best k E (freshF k E) := ⟨WF.fresh hz, fun m => by rw [freshF_eq hz]; split <;> omega⟩
theorem Best.report {k E : Nat} {f : Nat → Nat} (hz : Sz k E) (h : Best k E f) {m : Nat} (h1 : m + 1 < 2 ^ k) (ho : openF k E f m = true) : Best k E (upd f m 1) :=
  ⟨h.wf.report hz h1 ho (.inl rfl), fun i => by unfold upd; split; exact Nat.le_refl _; exact h.one i⟩

theorem seed_even (n j : Nat) : seedK (n + 1) (2 * j) = seedK n j := by
  rw [seedK, if_neg (by omega), show 2 * j / 2 = j by omega]
theorem seed_odd (n j : Nat) : seedK (n + 1) (2 * j + 1) = 2 ^ (n + 1) - 1 - seedK n j := by
  rw [seedK, if_pos (by omega), show (2 * j + 1) / 2 = j by omega]

theorem Best.seats {k E : Nat} {g : Nat → Nat} (hz : Sz k E) (h : Best k E g) : ∀ n m j, n < k → m + 2 ^ (n + 1) = 2 ^ k + j → j < 2 ^ n →
    ((seatsF k E g m).1 = -1 ∨ (seatsF k E g m).1 = (seedK (n + 1) (2 * j) : Nat)) ∧ ((seatsF k E g m).2 = -1 ∨ (seatsF k E g m).2 = -2 ∨ (seatsF k E g m).2 = (seedK (n + 1) (2 * j + 1) : Nat)) := by
  intro n m j hn
  induction hd : k - n using Nat.strongRecOn generalizing n m j with
  | _ d ih =>
    intro hm hj
    by_cases e : n + 1 = k
    · subst e
      have hp : 2 ^ (n + 1) = 2 * 2 ^ n := by omega
      obtain rfl : m = j := by omega
      rw [seats_first g (by omega)]
      refine ⟨.inr ?_, ?_⟩
      · have := ent_even hz m
        show ent (n + 1) E (2 * m) = _
        unfold ent at this ⊢
        split
        · rfl
        · rename_i hh; rw [if_neg hh] at this; omega
      · show ent (n + 1) E (2 * m + 1) = -1 ∨ ent (n + 1) E (2 * m + 1) = -2 ∨ _
        unfold ent
        split
        · exact .inr (.inr rfl)
        · exact .inr (.inl rfl)
    · have hp : 2 ^ (n + 1 + 1) = 2 * 2 ^ (n + 1) := by omega
      have hp2 : 2 ^ (n + 1) = 2 * 2 ^ n := by omega
      have hle := pow_le' (show n + 1 + 1 ≤ k by omega)
      have h1 := ih (k - (n + 1)) (by omega) (n + 1) (2 * m - 2 ^ k) (2 * j) (by omega) rfl (by omega) (by omega)
      have h2 := ih (k - (n + 1)) (by omega) (n + 1) (2 * m - 2 ^ k + 1) (2 * j + 1) (by omega) rfl (by omega) (by omega)
      rw [seats_later g (by omega) (by omega)]
      rw [seed_even] at h1 h2
      constructor
      · show winF _ _ _ _ = _ ∨ winF _ _ _ _ = _
        unfold winF pick
        have := h.one (2 * m - 2 ^ k)
        split
        · exact h1.1
        · rw [if_neg (by omega)]; exact .inl rfl
      · show winF _ _ _ _ = _ ∨ winF _ _ _ _ = _ ∨ winF _ _ _ _ = _
        unfold winF pick
        have := h.one (2 * m - 2 ^ k + 1)
        split
        · rcases h2.1 with h2 | h2
          · exact .inl h2
          · exact .inr (.inr h2)
        · rw [if_neg (by omega)]; exact .inl rfl

/-- each match is of a round -/
theorem round_of {k : Nat} : ∀ {m : Nat}, m + 1 < 2 ^ k → ∃ n j, n < k ∧ m + 2 ^ (n + 1) = 2 ^ k + j ∧ j < 2 ^ n := by
  intro m hm
  have : ∀ d, d ≤ k → 2 ^ k ≤ m + 2 ^ d → ∃ n j, n < k ∧ m + 2 ^ (n + 1) = 2 ^ k + j ∧ j < 2 ^ n := by
    intro d
    induction d with
    | zero => intro _ h; simp at h; omega
    | succ d ih =>
      intro hd h
      have hp : 2 ^ (d + 1) = 2 * 2 ^ d := by omega
      by_cases hh : 2 ^ k ≤ m + 2 ^ d
      · exact ih (by omega) hh
      · exact ⟨d, m + 2 ^ (d + 1) - 2 ^ k, by omega, by omega, by omega⟩
  exact this k (Nat.le_refl k) (by omega)

/-- the better one has the first seat -/
theorem Best.less {k E : Nat} {g : Nat → Nat} (hz : Sz k E) (h : Best k E g) {m : Nat} (h1 : m + 1 < 2 ^ k) (ho : openF k E g m = true) : (seatsF k E g m).1 < (seatsF k E g m).2 := by
  obtain ⟨_, a, b⟩ := openF_iff.mp ho
  obtain ⟨n, j, hn, hm, hj⟩ := round_of h1
  obtain ⟨h1, h2⟩ := h.seats hz n m j hn hm hj
  have hp : 2 ^ (n + 1) = 2 * 2 ^ n := by omega
  have := seedK_lt n j
  rw [seed_even] at h1
  rw [seed_odd] at h2
  omega

/-- all is decided: entrant 0 wins -/
theorem Best.champion {k E : Nat} {g : Nat → Nat} (hz : Sz k E) (h : Best k E g) (hd : ∀ m, m + 1 < 2 ^ k → winF k E g m ≠ -1) : winF k E g (2 ^ k - 2) = 0 := by
  obtain ⟨H, hH, hH1, _⟩ := hz.pow
  have h0 := hd (2 ^ k - 2) (by omega)
  have h1 := (h.seats hz 0 (2 ^ k - 2) 0 (by have := hz.one; omega) (by omega) (by decide)).1
  have := h.one (2 ^ k - 2)
  unfold winF pick at h0 ⊢
  split at h0
  · next hh => rw [if_pos hh]; rcases h1 with h1 | h1
               · exact (h0 h1).elim
               · rw [h1]; simp [seedK]
  · rw [if_neg (by omega)] at h0; exact (h0 rfl).elim

/-- entrant 1 has the place in the middle -/
theorem place_one : ∀ k, 1 ≤ k → seedK k (2 ^ (k - 1)) = 1
  | 1, _ => by decide
  | k + 2, _ => by
    have := place_one (k + 1) (by omega)
    simp only [Nat.add_sub_cancel] at this
    rw [show k + 2 - 1 = k + 1 by omega, show (2 : Nat) ^ (k + 1) = 2 * 2 ^ k by omega, seed_even, this]

theorem Best.winner {k E : Nat} {g : Nat → Nat} (hz : Sz k E) (h : Best k E g) (hd : ∀ m, m + 1 < 2 ^ k → winF k E g m ≠ -1) {n m j : Nat} (hn : n < k) (hm : m + 2 ^ (n + 1) = 2 ^ k + j) (hj : j < 2 ^ n) : winF k E g m = (seedK n j : Nat) := by
  have hp : 2 ^ (n + 1) = 2 * 2 ^ n := by omega
  have h0 := hd m (by omega)
  have h1 := (h.seats hz n m j hn hm hj).1
  rw [seed_even] at h1
  have := h.one m
  unfold winF pick at h0 ⊢
  split at h0
  · next hh => rw [if_pos hh]; exact h1.resolve_left h0
  · rw [if_neg (by omega)] at h0; exact (h0 rfl).elim

/-- entrant 1 loses the final -/
theorem Best.rank_one {k E : Nat} {g : Nat → Nat} (hz : Sz k E) (h : Best k E g) (hd : ∀ m, m + 1 < 2 ^ k → winF k E g m ≠ -1) : rankF k E g (1 : Nat) (2 ^ (k - 1)) = (k : Int) - 1 := by
  have hk := hz.one
  obtain ⟨H, hH, hH1, _, hHk⟩ := hz.pow
  have step : ∀ d r, r + d + 1 = k → ∀ m, (m + 2 ^ (d + 1) = 2 ^ k + 2 ^ d / 2) → rankFrom k E g (1 : Nat) m r = (k : Int) - 1 := by
    intro d
    induction d with
    | zero =>
      intro r hr m hm
      have hm2 : m = 2 ^ k - 2 := by simp at hm; omega
      have hk2 : 2 ≤ 2 ^ k := by omega
      have hm3 : m + 1 < 2 ^ k := by omega
      rw [rankFrom, if_neg (hd _ hm3), hm2, h.champion hz hd, if_pos (by decide)]
      omega
    | succ d ih =>
      intro r hr m hm
      have hp : 2 ^ (d + 1 + 1) = 2 * 2 ^ (d + 1) := by omega
      have hp1 : 2 ^ (d + 1) = 2 * 2 ^ d := by omega
      have hpos := Nat.one_le_two_pow (n := d)
      have hw : winF k E g m = (1 : Nat) := by
        rw [h.winner hz hd (n := d + 1) (j := 2 ^ (d + 1) / 2) (by omega) hm (by omega)]
        have := place_one (d + 1) (by omega)
        simp only [Nat.add_sub_cancel] at this
        rw [show 2 ^ (d + 1) / 2 = 2 ^ d by omega, this]
      have hl := pow_le' (show 1 ≤ d + 1 by omega)
      simp only [Nat.pow_one] at hl
      rw [rankFrom, if_neg (hd _ (by omega)), if_neg (by rw [hw]; simp), dif_pos (by omega)]
      refine ih (r + 1) (by omega) (nextF k m) ?_
      unfold nextF
      omega
  have := step (k - 1) 0 (by omega) (2 ^ (k - 1) / 2) (by rw [show k - 1 + 1 = k by omega]; omega)
  exact this
end Go.Proofs.YtphlpclhmodekaaDoor
