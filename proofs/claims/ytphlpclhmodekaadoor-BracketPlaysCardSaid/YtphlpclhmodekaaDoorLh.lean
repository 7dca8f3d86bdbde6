/-
  Bracket: the plain model: what BracketHolds asks.
-/
import Derived.Test.YtphlpclhmodekaaDoorLt
set_option linter.unusedVariables false
set_option linter.unusedSimpArgs false
namespace Go.Proofs.YtphlpclhmodekaaDoor

/-- behind an open match nothing is decided -/
theorem next_zero {k E : Nat} {f : Nat → Nat} (hz : Sz k E) (h : WF k E f) {m : Nat} (h1 : m + 1 < 2 ^ k) (h0 : f m = 0) : f (nextF k m) = 0 := by
  obtain ⟨H, hH, hH1, _⟩ := hz.pow
  by_cases hl : nextF k m + 1 < 2 ^ k
  · by_cases hn : f (nextF k m) = 0
    · exact hn
    · have hn2 : ¬ 2 * nextF k m < 2 ^ k := by unfold nextF; omega
      have hb : byeF k E (nextF k m) = false := by simp [byeF, hn2]
      have ⟨a, b⟩ := h.two _ hl hb hn
      rw [seats_later f hn2 hl] at a b
      have a' : 0 ≤ winF k E f (2 * nextF k m - 2 ^ k) := a
      have b' : 0 ≤ winF k E f (2 * nextF k m - 2 ^ k + 1) := b
      by_cases hp : m % 2 = 0
      · rw [show 2 * nextF k m - 2 ^ k = m by unfold nextF; omega, winF_none h0] at a'; omega
      · rw [show 2 * nextF k m - 2 ^ k + 1 = m by unfold nextF; omega, winF_none h0] at b'; omega
  · exact h.out _ hl

/-- an entrant: its number and its place -/
def Entr (k E : Nat) (v : Int) : Prop := ∃ e p : Nat, v = (e : Int) ∧ e < E ∧ seedK k p = e ∧ p < 2 ^ k
theorem ent_entr {k E p : Nat} (hp : p < 2 ^ k) (h : 0 ≤ ent k E p) : Entr k E (ent k E p) := by
  unfold ent at h ⊢
  by_cases hl : seedK k p < E
  · rw [if_pos hl]; exact ⟨seedK k p, p, rfl, hl, rfl, hp⟩
  · rw [if_neg hl] at h; omega
theorem pick_entr {k E d : Nat} {s : Int × Int} (h1 : 0 ≤ s.1 → Entr k E s.1) (h2 : 0 ≤ s.2 → Entr k E s.2) (h : 0 ≤ pick d s) : Entr k E (pick d s) := by
  unfold pick at h ⊢
  split at h
  · next hh => rw [if_pos hh]; exact h1 h
  · next hh =>
    split at h
    · next hg => rw [if_neg hh, if_pos hg]; exact h2 h
    · omega
theorem seats_entr {k E : Nat} (f : Nat → Nat) (hk : 1 ≤ k) : ∀ m, m + 1 < 2 ^ k → (0 ≤ (seatsF k E f m).1 → Entr k E (seatsF k E f m).1) ∧ (0 ≤ (seatsF k E f m).2 → Entr k E (seatsF k E f m).2) := by
  have h2 : 2 ^ k = 2 * 2 ^ (k - 1) := by have := pow_split (show 0 < k by omega); simpa using this
  intro m
  induction m using Nat.strongRecOn with
  | _ m ih =>
    intro hm
    by_cases h : 2 * m < 2 ^ k
    · rw [seats_first f h]
      exact ⟨fun hx => ent_entr (by omega) hx, fun hx => ent_entr (by omega) hx⟩
    · rw [seats_later f h hm]
      have i1 := ih (2 * m - 2 ^ k) (by omega) (by omega)
      have i2 := ih (2 * m - 2 ^ k + 1) (by omega) (by omega)
      exact ⟨fun hx => pick_entr i1.1 i1.2 hx, fun hx => pick_entr i2.1 i2.2 hx⟩
theorem win_entr {k E : Nat} {f : Nat → Nat} (hk : 1 ≤ k) {m : Nat} (hm : m + 1 < 2 ^ k) (h : 0 ≤ winF k E f m) : Entr k E (winF k E f m) :=
  pick_entr (seats_entr f hk m hm).1 (seats_entr f hk m hm).2 h
theorem place_of {k E e : Nat} (hz : Sz k E) (he : e < E) : ∃ p, p < 2 ^ k ∧ seedK k p = e := seedK_onto k e (by have := hz.hi; omega)

/-- some match is not decided: no champion -/
theorem no_champion {k E : Nat} {f : Nat → Nat} (hz : Sz k E) (h : WF k E f) (hc : cntF f (2 ^ k - 1) ≠ 0) : winF k E f (2 ^ k - 2) = -1 := by
  by_cases hf : f (2 ^ k - 2) = 0
  · exact winF_none hf
  · obtain ⟨m, hm, h0, _⟩ := cnt_least hc
    exact (all_of_final hz h hf (2 ^ k - 2 - m) m (by omega) h0).elim
theorem all_won {k E : Nat} {f : Nat → Nat} (hz : Sz k E) (h : WF k E f) (hc : cntF f (2 ^ k - 1) = 0) : ∀ m, m + 1 < 2 ^ k → winF k E f m ≠ -1 := fun m hm => by
  rw [h.win_iff hz hm]
  exact cnt_zero hc m (by omega)
theorem cnt_report {f : Nat → Nat} {m v n i E : Nat} (hm : m < n) (h0 : f m = 0) (hv : v ≠ 0) (h : cntF f n + i + 1 = E) : cntF (upd f m v) n + (i + 1) + 1 = E := by
  have := cnt_upd h0 hv n
  rw [if_pos hm] at this
  omega
end Go.Proofs.YtphlpclhmodekaaDoor
