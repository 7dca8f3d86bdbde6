/-
  Bracket: the plain model: what a text's characters decide.
-/
import Derived.Test.YtphlpclhmodekaaDoorLh
set_option linter.unusedVariables false
set_option linter.unusedSimpArgs false
namespace Go.Proofs.YtphlpclhmodekaaDoor

/-- a character is reported -/
def readC (k E : Nat) (f : Nat → Nat) (m : Nat) (c : UInt8) : Nat → Nat := if (c = 48 ∨ c = 49) ∧ openF k E f m = true then upd f m (if c = 48 then 1 else 2) else f
/-- the characters are reported, one by one, from match m on -/
def readF (k E : Nat) : (Nat → Nat) → List UInt8 → Nat → (Nat → Nat)
  | f, [], _ => f
  | f, c :: r, m => readF k E (readC k E f m c) r (m + 1)
theorem WF.readC {k E : Nat} {f : Nat → Nat} (hz : Sz k E) (h : WF k E f) {m : Nat} (hm : m + 1 < 2 ^ k) (c : UInt8) : WF k E (readC k E f m c) := by
  unfold Proofs.YtphlpclhmodekaaDoor.readC
  split
  · next hh => exact h.report hz hm hh.2 (by split <;> simp)
  · exact h
/-- the seats of a match hang on the matches before it alone -/
theorem seats_congr {k E : Nat} {f g : Nat → Nat} : ∀ m, (∀ i, i < m → f i = g i) → seatsF k E f m = seatsF k E g m := by
  intro m
  induction m using Nat.strongRecOn with
  | _ m ih =>
    intro hfg
    by_cases h : 2 * m < 2 ^ k
    · rw [seats_first f h, seats_first g h]
    · by_cases h1 : m + 1 < 2 ^ k
      · rw [seats_later f h h1, seats_later g h h1]
        unfold winF
        rw [ih _ (by omega) (fun i hi => hfg i (by omega)), ih _ (by omega) (fun i hi => hfg i (by omega)), hfg _ (by omega), hfg _ (by omega)]
      · rw [seatsF, if_neg h, dif_neg h1, seatsF, if_neg h, dif_neg h1]
/-- the first m decisions of f, else a new bracket's -/
def mixF (k E : Nat) (f : Nat → Nat) (m : Nat) : Nat → Nat := fun i => if i < m then f i else freshF k E i
theorem mix_step {k E : Nat} {f : Nat → Nat} (hz : Sz k E) (h : WF k E f) {m : Nat} (hm : m + 1 < 2 ^ k) : readC k E (mixF k E f m) m (chF k E f m) = mixF k E f (m + 1) := by
  have hse : seatsF k E (mixF k E f m) m = seatsF k E f m := seats_congr m fun i hi => by unfold mixF; rw [if_pos hi]
  have hmm : mixF k E f m m = freshF k E m := by unfold mixF; rw [if_neg (by omega)]
  have hle := h.le m
  have key : ∀ v, f m = v → upd (mixF k E f m) m v = mixF k E f (m + 1) := by
    intro v hv
    funext i
    unfold upd mixF
    by_cases e : i = m
    · subst e; rw [if_pos rfl, if_pos (by omega)]; exact hv.symm
    · rw [if_neg e]
      by_cases l : i < m
      · rw [if_pos l, if_pos (by omega)]
      · rw [if_neg l, if_neg (by omega)]
  have same : f m = freshF k E m → mixF k E f m = mixF k E f (m + 1) := by
    intro he
    rw [← key _ rfl, he, ← hmm, upd_self]
  unfold readC
  cases hb : byeF k E m
  · have hf0 : freshF k E m = 0 := by rw [freshF_eq hz, hb]; rfl
    by_cases h0 : f m = 0
    · have hc : chF k E f m = 46 := by unfold chF; rw [hb]; simp [h0]
      rw [hc, if_neg (fun hh => by simp at hh)]
      exact same (by rw [h0, hf0])
    · have ho : openF k E (mixF k E f m) m = true := openF_iff.mpr ⟨by rw [hmm, hf0], by rw [hse]; exact h.two m hm hb h0⟩
      by_cases h1 : f m = 1
      · have hc : chF k E f m = 48 := by unfold chF; rw [hb]; simp [h1]
        rw [hc, if_pos ⟨.inl rfl, ho⟩, if_pos rfl]
        exact key 1 h1
      · have hc : chF k E f m = 49 := by unfold chF; rw [hb]; simp [h0, h1]
        rw [hc, if_pos ⟨.inr rfl, ho⟩, if_neg (by decide)]
        exact key 2 (by omega)
  · have hc : chF k E f m = 45 := by unfold chF; rw [hb]; rfl
    rw [hc, if_neg (fun hh => by simp at hh)]
    exact same (by rw [h.bye m hb, freshF_eq hz, hb]; rfl)
end Go.Proofs.YtphlpclhmodekaaDoor
