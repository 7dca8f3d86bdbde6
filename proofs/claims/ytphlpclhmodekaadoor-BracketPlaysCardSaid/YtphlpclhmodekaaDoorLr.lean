/-
  Bracket: the plain model: rounds and ranks.
-/
import Derived.Test.YtphlpclhmodekaaDoorL
set_option linter.unusedVariables false
set_option linter.unusedSimpArgs false
namespace Go.Proofs.YtphlpclhmodekaaDoor

/-- how many rounds an entrant has got through, from a match on -/
def rankFrom (k E : Nat) (f : Nat → Nat) (e : Int) (m round : Nat) : Int :=
  if winF k E f m = -1 then -1
  else if winF k E f m ≠ e then round
  else if h : m + 2 < 2 ^ k then rankFrom k E f e (nextF k m) (round + 1)
  else ((round + 1 : Nat) : Int)
termination_by 2 ^ k - m
decreasing_by unfold nextF; omega

/-- the matches of an entrant that has not lost -/
def pathF (k h : Nat) : Nat → Nat
  | 0 => h
  | r + 1 => nextF k (pathF k h r)

theorem pow_split {k r : Nat} (h : r < k) : 2 ^ (k - r) = 2 * 2 ^ (k - r - 1) := by
  obtain ⟨d, hd⟩ : ∃ d, k - r = d + 1 := ⟨k - r - 1, by omega⟩
  rw [hd]
  simp only [Nat.add_sub_cancel]
  omega

theorem path_in {k h : Nat} (hh : 2 * h < 2 ^ k) : ∀ r, r < k → 2 ^ k ≤ pathF k h r + 2 ^ (k - r) ∧ pathF k h r + 2 ^ (k - r - 1) < 2 ^ k
  | 0, h0 => by
    have := pow_split h0
    simp only [pathF, Nat.sub_zero] at *
    omega
  | r + 1, hr => by
    have h1 := path_in hh r (by omega)
    have e1 := pow_split (show r < k by omega)
    have e2 := pow_split hr
    rw [show k - (r + 1) = k - r - 1 by omega] at *
    simp only [pathF, nextF]
    omega
theorem path_out {k h : Nat} (hh : 2 * h < 2 ^ k) (hk : 1 ≤ k) : ∀ d, 2 ^ k ≤ pathF k h (k + d) + 1
  | 0 => by
    obtain ⟨j, rfl⟩ : ∃ j, k = j + 1 := ⟨k - 1, by omega⟩
    have h1 := path_in hh j (by omega)
    rw [show j + 1 - j = 1 by omega] at h1
    simp only [Nat.sub_self, Nat.pow_zero, Nat.pow_one] at h1
    show 2 ^ (j + 1) ≤ nextF _ (pathF _ h j) + 1
    unfold nextF
    omega
  | d + 1 => by
    have := path_out hh hk d
    show 2 ^ k ≤ nextF k (pathF k h (k + d)) + 1
    unfold nextF
    omega
theorem pow_le' {a b : Nat} (h : a ≤ b) : 2 ^ a ≤ 2 ^ b := Nat.pow_le_pow_right (by decide) h
/-- a match of a round that is on a path is the path's match of that round -/
theorem path_round {k h r R : Nat} (hh : 2 * h < 2 ^ k) (hR : R < k) (h1 : 2 ^ k ≤ pathF k h r + 2 ^ (k - R)) (h2 : pathF k h r + 2 ^ (k - R - 1) < 2 ^ k) : r = R := by
  by_cases hr : r < k
  · have ⟨a, b⟩ := path_in hh r hr
    by_cases e : r = R
    · exact e
    · by_cases l : r < R
      · have := pow_le' (show k - R ≤ k - r - 1 by omega); omega
      · have := pow_le' (show k - r ≤ k - R - 1 by omega); omega
  · have := path_out (k := k) hh (by omega) (r - k)
    rw [show k + (r - k) = r by omega] at this
    have := Nat.one_le_two_pow (n := k - R - 1)
    omega

/-- an entrant has a seat in this match -/
def Has (k E : Nat) (f : Nat → Nat) (e : Int) (m : Nat) : Prop := (seatsF k E f m).1 = e ∨ (seatsF k E f m).2 = e
instance (k E : Nat) (f : Nat → Nat) (e : Int) (m : Nat) : Decidable (Has k E f e m) := by unfold Has; exact inferInstance
theorem pick_has {d : Nat} {s : Int × Int} {e : Int} (h : pick d s = e) (he : 0 ≤ e) : s.1 = e ∨ s.2 = e := by
  unfold pick at h
  split at h
  · exact .inl h
  · split at h
    · exact .inr h
    · omega
/-- who wins a match has a seat there -/
theorem win_has {k E : Nat} {f : Nat → Nat} {e : Int} {m : Nat} (h : winF k E f m = e) (he : 0 ≤ e) : Has k E f e m := pick_has h he
theorem ent_eq {k E p e : Nat} (hp : seedK k p = e) (he : e < E) : ent k E p = (e : Int) := by
  unfold ent; rw [if_pos (by omega), hp]
theorem ent_place {k E p q e : Nat} (hp : seedK k p = e) (pl : p < 2 ^ k) (ql : q < 2 ^ k) (h : ent k E q = (e : Int)) : q = p := by
  unfold ent at h
  split at h
  · exact seedK_inj k q p ql pl (by omega)
  · omega

theorem has_home {k E : Nat} (f : Nat → Nat) {p e : Nat} (hp : seedK k p = e) (pl : p < 2 ^ k) (hk : 1 ≤ k) (he : e < E) : 2 * (p / 2) < 2 ^ k ∧ Has k E f e (p / 2) := by
  refine ⟨by omega, ?_⟩
  unfold Has
  rw [seats_first f (by omega)]
  by_cases h : p % 2 = 0
  · left; show ent k E _ = _; rw [show 2 * (p / 2) = p by omega]; exact ent_eq hp he
  · right; show ent k E _ = _; rw [show 2 * (p / 2) + 1 = p by omega]; exact ent_eq hp he

/-- an entrant has a seat only on its path -/
theorem has_path {k E : Nat} (f : Nat → Nat) {p e : Nat} (hp : seedK k p = e) (pl : p < 2 ^ k) : ∀ i, i + 1 < 2 ^ k → Has k E f e i → ∃ r, i = pathF k (p / 2) r := by
  intro i
  induction i using Nat.strongRecOn with
  | _ i ih =>
    intro hi h
    by_cases hm : 2 * i < 2 ^ k
    · refine ⟨0, ?_⟩
      unfold Has at h
      rw [seats_first f hm] at h
      have h2 : 2 ^ k % 2 = 0 ∨ k = 0 := by
        cases k with
        | zero => right; rfl
        | succ j => left; omega
      have hlt : 2 * i + 1 < 2 ^ k := by
        rcases h2 with h2 | h2
        · omega
        · subst h2; simp at hm hi
      show i = p / 2
      rcases h with h | h
      · have := ent_place (q := 2 * i) hp pl (by omega) h; omega
      · have := ent_place (q := 2 * i + 1) hp pl (by omega) h; omega
    · unfold Has at h
      rw [seats_later f hm hi] at h
      rcases h with h | h
      · obtain ⟨r, hr⟩ := ih _ (by omega) (by omega) (win_has h (by omega))
        exact ⟨r + 1, by show i = nextF k _; rw [← hr]; unfold nextF; omega⟩
      · obtain ⟨r, hr⟩ := ih _ (by omega) (by omega) (win_has h (by omega))
        exact ⟨r + 1, by show i = nextF k _; rw [← hr]; unfold nextF; omega⟩
/-- in a round only in the path's match -/
theorem has_only {k E : Nat} {f : Nat → Nat} {p e R i : Nat} (hp : seedK k p = e) (pl : p < 2 ^ k) (hk : 1 ≤ k) (hR : R < k) (h1 : 2 ^ k ≤ i + 2 ^ (k - R)) (h2 : i + 2 ^ (k - R - 1) < 2 ^ k) (h : Has k E f e i) : i = pathF k (p / 2) R := by
  have h0 : 2 * (p / 2) < 2 ^ k := by omega
  have := Nat.one_le_two_pow (n := k - R - 1)
  obtain ⟨r, rfl⟩ := has_path f hp pl i (by omega) h
  rw [path_round h0 hR h1 h2]
/-- who wins on his path has a seat in the next match -/
theorem has_next {k E : Nat} {f : Nat → Nat} {e : Int} {m : Nat} (hk : 1 ≤ k) (hm : m + 2 < 2 ^ k) (h : winF k E f m = e) : Has k E f e (nextF k m) := by
  have h2 : 2 ^ k = 2 * 2 ^ (k - 1) := by have := pow_split (show 0 < k by omega); simpa using this
  unfold Has
  rw [seats_later f (by unfold nextF; omega) (by unfold nextF; omega)]
  by_cases hp : m % 2 = 0
  · left; show winF _ _ _ _ = _; rw [show 2 * nextF k m - 2 ^ k = m by unfold nextF; omega]; exact h
  · right; show winF _ _ _ _ = _; rw [show 2 * nextF k m - 2 ^ k + 1 = m by unfold nextF; omega]; exact h
/-- who has a seat on his path has won before -/
theorem has_won {k E : Nat} {f : Nat → Nat} {p e : Nat} (hp : seedK k p = e) (pl : p < 2 ^ k) (hk : 1 ≤ k) : ∀ r, r < k → Has k E f e (pathF k (p / 2) r) → ∀ q, q < r → winF k E f (pathF k (p / 2) q) = e
  | 0, _, _, q, hq => by omega
  | r + 1, hr, h, q, hq => by
    have h0 : 2 * (p / 2) < 2 ^ k := by omega
    have ⟨a, b⟩ := path_in h0 (r + 1) hr
    have h2 : 2 ^ k = 2 * 2 ^ (k - 1) := by have := pow_split (show 0 < k by omega); simpa using this
    have ⟨a', b'⟩ := path_in h0 r (by omega)
    have l1 := Nat.one_le_two_pow (n := k - (r + 1) - 1)
    have e0 := pow_split (show r < k by omega)
    have e2 := pow_split hr
    have e3 := pow_le' (show k - (r + 1) ≤ k - 1 by omega)
    rw [show k - r - 1 = k - (r + 1) by omega] at *
    have key : ∀ c, c + 1 < 2 ^ k → nextF k c = pathF k (p / 2) (r + 1) → winF k E f c = e → winF k E f (pathF k (p / 2) r) = e ∧ Has k E f e (pathF k (p / 2) r) := by
      intro c hc hn hw
      have hh := win_has hw (by omega)
      have hc2 : c = pathF k (p / 2) r := by
        refine has_only hp pl hk (show r < k by omega) ?_ ?_ hh
        · unfold nextF at hn; omega
        · rw [show k - r - 1 = k - (r + 1) by omega]; unfold nextF at hn; omega
      exact ⟨hc2 ▸ hw, hc2 ▸ hh⟩
    have kw : winF k E f (pathF k (p / 2) r) = e ∧ Has k E f e (pathF k (p / 2) r) := by
      have hn : ¬ 2 * pathF k (p / 2) (r + 1) < 2 ^ k := by omega
      unfold Has at h
      rw [seats_later f hn (by omega)] at h
      rcases h with h | h
      · exact key _ (by omega) (by unfold nextF; omega) h
      · exact key _ (by omega) (by unfold nextF; omega) h
    by_cases hqr : q = r
    · rw [hqr]; exact kw.1
    · exact has_won hp pl hk r (by omega) kw.2 q (by omega)

/-- the rank when all is decided -/
theorem rank_all {k E : Nat} {f : Nat → Nat} {e : Int} {h : Nat} (hk : 1 ≤ k) (hh : 2 * h < 2 ^ k) (hd : ∀ m, m + 1 < 2 ^ k → winF k E f m ≠ -1) : ∀ d r, r + d + 1 = k →
    (0 ≤ rankFrom k E f e (pathF k h r) r ∧ rankFrom k E f e (pathF k h r) r ≤ k) ∧
    (rankFrom k E f e (pathF k h r) r = k → winF k E f (2 ^ k - 2) = e) ∧
    ((∀ q, r ≤ q → q < k → winF k E f (pathF k h q) = e) → rankFrom k E f e (pathF k h r) r = k)
  | 0, r, hr => by
    have ⟨a, b⟩ := path_in hh r (by omega)
    rw [show k - r = 1 by omega] at a b
    simp only [Nat.sub_self, Nat.pow_zero, Nat.pow_one] at a b
    rw [rankFrom, if_neg (hd _ (by omega))]
    have e1 : pathF k h r = 2 ^ k - 2 := by omega
    by_cases hw : winF k E f (pathF k h r) = e
    · rw [if_neg (by simpa using hw), dif_neg (by omega)]
      exact ⟨⟨by omega, by omega⟩, fun _ => e1 ▸ hw, fun _ => by omega⟩
    · rw [if_pos hw]
      exact ⟨⟨by omega, by omega⟩, fun hx => by omega, fun hx => (hw (hx r (by omega) (by omega))).elim⟩
  | d + 1, r, hr => by
    have ⟨a, b⟩ := path_in hh r (by omega)
    have e2 := pow_le' (show 1 ≤ k - r - 1 by omega)
    simp only [Nat.pow_one] at e2
    rw [rankFrom, if_neg (hd _ (by omega))]
    by_cases hw : winF k E f (pathF k h r) = e
    · rw [if_neg (by simpa using hw), dif_pos (by omega)]
      have ih := rank_all (e := e) hk hh hd d (r + 1) (by omega)
      exact ⟨ih.1, ih.2.1, fun hx => ih.2.2 fun q h1 h2 => hx q (by omega) h2⟩
    · rw [if_pos hw]
      exact ⟨⟨by omega, by omega⟩, fun hx => by omega, fun hx => (hw (hx r (by omega) (by omega))).elim⟩

/-- the rank of an entrant, from its first match on -/
def rankF (k E : Nat) (f : Nat → Nat) (e : Nat) (p : Nat) : Int := rankFrom k E f e (p / 2) 0

/-- all is decided: the champion has got through all rounds, all others through less -/
theorem rank_final {k E : Nat} {f : Nat → Nat} {e p : Nat} (hk : 1 ≤ k) (hp : seedK k p = e) (pl : p < 2 ^ k) (hd : ∀ m, m + 1 < 2 ^ k → winF k E f m ≠ -1) :
    0 ≤ rankF k E f e p ∧ rankF k E f e p ≤ k ∧ (rankF k E f e p = k ↔ winF k E f (2 ^ k - 2) = e) := by
  have h0 : 2 * (p / 2) < 2 ^ k := by omega
  have h := rank_all (e := (e : Int)) hk h0 hd (k - 1) 0 (by omega)
  refine ⟨h.1.1, h.1.2, h.2.1, fun hw => h.2.2 fun q _ hq => ?_⟩
  have h2 : 2 ^ k = 2 * 2 ^ (k - 1) := by have := pow_split (show 0 < k by omega); simpa using this
  have h3 := Nat.one_le_two_pow (n := k - 1)
  have hh := win_has hw (by omega)
  have e1 := has_only (R := k - 1) hp pl hk (by omega) (by rw [show k - (k - 1) = 1 by omega]; omega) (by rw [show k - (k - 1) - 1 = 0 by omega]; simp; omega) hh
  by_cases hq1 : q = k - 1
  · rw [hq1, ← e1]; exact hw
  · exact has_won hp pl hk (k - 1) (by omega) (e1 ▸ hh) q (by omega)
end Go.Proofs.YtphlpclhmodekaaDoor
