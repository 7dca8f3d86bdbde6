/-
  Bracket: the plain model: the order of seeds, the entrants of a match, its winner, and what Report and Undo keep.
-/
set_option linter.unusedVariables false
set_option linter.unusedSimpArgs false
namespace Go.Proofs.YtphlpclhmodekaaDoor

/-- the number at a place of the order for 2^k -/
def seedK : Nat → Nat → Nat
  | 0, _ => 0
  | k + 1, p => if p % 2 = 1 then 2 ^ (k + 1) - 1 - seedK k (p / 2) else seedK k (p / 2)

theorem seedK_lt : ∀ (k p : Nat), seedK k p < 2 ^ k
  | 0, _ => by simp [seedK]
  | k + 1, p => by
    have h := seedK_lt k (p / 2)
    have h2 : 2 ^ (k + 1) = 2 * 2 ^ k := by omega
    unfold seedK
    split <;> omega

theorem seedK_inj : ∀ (k p q : Nat), p < 2 ^ k → q < 2 ^ k → seedK k p = seedK k q → p = q
  | 0, p, q, hp, hq, _ => by simp at hp hq; omega
  | k + 1, p, q, hp, hq, h => by
    have h2 : 2 ^ (k + 1) = 2 * 2 ^ k := by omega
    have a1 := seedK_lt k (p / 2)
    have a2 := seedK_lt k (q / 2)
    have ih := seedK_inj k (p / 2) (q / 2) (by omega) (by omega)
    unfold seedK at h
    split at h <;> split at h
    · have := ih (by omega); omega
    · omega
    · omega
    · have := ih (by omega); omega

theorem seedK_onto : ∀ (k x : Nat), x < 2 ^ k → ∃ p, p < 2 ^ k ∧ seedK k p = x
  | 0, x, hx => ⟨0, by simp, by simp at hx; simp [seedK, hx]⟩
  | k + 1, x, hx => by
    have h2 : 2 ^ (k + 1) = 2 * 2 ^ k := by omega
    by_cases h : x < 2 ^ k
    · obtain ⟨p, hp, he⟩ := seedK_onto k x h
      refine ⟨2 * p, by omega, ?_⟩
      unfold seedK
      rw [if_neg (by omega), show 2 * p / 2 = p by omega, he]
    · obtain ⟨p, hp, he⟩ := seedK_onto k (2 ^ (k + 1) - 1 - x) (by omega)
      refine ⟨2 * p + 1, by omega, ?_⟩
      unfold seedK
      rw [if_pos (by omega), show (2 * p + 1) / 2 = p by omega, he]
      omega

/-- the entrant at a place of the first round, or -2 -/
def ent (k E p : Nat) : Int := if seedK k p < E then ((seedK k p : Nat) : Int) else -2

/-- who wins by a decision -/
def pick (d : Nat) (s : Int × Int) : Int := if d = 1 then s.1 else if d = 2 then s.2 else -1

/-- the entrants of a match -/
def seatsF (k E : Nat) (f : Nat → Nat) (m : Nat) : Int × Int :=
  if 2 * m < 2 ^ k then (ent k E (2 * m), ent k E (2 * m + 1))
  else if h : m + 1 < 2 ^ k then
    (pick (f (2 * m - 2 ^ k)) (seatsF k E f (2 * m - 2 ^ k)), pick (f (2 * m - 2 ^ k + 1)) (seatsF k E f (2 * m - 2 ^ k + 1)))
  else (0, 0)
termination_by m
decreasing_by all_goals omega

/-- the winner of a match, or -1 -/
def winF (k E : Nat) (f : Nat → Nat) (m : Nat) : Int := pick (f m) (seatsF k E f m)
def byeF (k E m : Nat) : Bool := decide (2 * m < 2 ^ k) && (decide (ent k E (2 * m) = -2) || decide (ent k E (2 * m + 1) = -2))
def openF (k E : Nat) (f : Nat → Nat) (m : Nat) : Bool := decide (f m = 0) && (decide (0 ≤ (seatsF k E f m).1) && decide (0 ≤ (seatsF k E f m).2))
/-- a new bracket -/
def freshF (k E m : Nat) : Nat := if byeF k E m then (if ent k E (2 * m) = -2 then 2 else 1) else 0
def upd (f : Nat → Nat) (m v : Nat) : Nat → Nat := fun i => if i = m then v else f i
theorem upd_same (f : Nat → Nat) (m v : Nat) : upd f m v m = v := by simp [upd]
theorem upd_ne (f : Nat → Nat) {m i : Nat} (v : Nat) (h : i ≠ m) : upd f m v i = f i := by simp [upd, h]
theorem upd_upd (f : Nat → Nat) (m v u : Nat) : upd (upd f m v) m u = upd f m u := by funext i; simp [upd]; split <;> rfl
theorem upd_self (f : Nat → Nat) (m : Nat) : upd f m (f m) = f := by funext i; simp [upd]; intro h; rw [h]

theorem seats_first {k E : Nat} (f : Nat → Nat) {m : Nat} (h : 2 * m < 2 ^ k) : seatsF k E f m = (ent k E (2 * m), ent k E (2 * m + 1)) := by
  rw [seatsF, if_pos h]
theorem seats_later {k E : Nat} (f : Nat → Nat) {m : Nat} (h : ¬ 2 * m < 2 ^ k) (h1 : m + 1 < 2 ^ k) : seatsF k E f m = (winF k E f (2 * m - 2 ^ k), winF k E f (2 * m - 2 ^ k + 1)) := by
  rw [seatsF, if_neg h, dif_pos h1]
  rfl

theorem ent_cases (k E p : Nat) : ent k E p = -2 ∨ 0 ≤ ent k E p := by
  unfold ent
  split
  · right; omega
  · left; rfl
theorem ent_ne (k E p : Nat) : ent k E p ≠ -1 := by
  have := ent_cases k E p; omega

theorem pick_eq {d d' : Nat} {s s' : Int × Int} (h : pick d s ≠ -1) (hd : d ≠ 0 → d' = d) (h1 : s.1 ≠ -1 → s'.1 = s.1) (h2 : s.2 ≠ -1 → s'.2 = s.2) : pick d' s' = pick d s := by
  unfold pick at h ⊢
  split at h
  · next hh => rw [hd (by omega), if_pos hh, if_pos hh]; exact h1 h
  · next hh =>
    split at h
    · next hg => rw [hd (by omega), if_neg hh, if_pos hg, if_neg hh, if_pos hg]; exact h2 h
    · exact (h rfl).elim

/-- what is decided stays when more is decided -/
theorem seats_mono {k E : Nat} {f f' : Nat → Nat} (hf : ∀ i, f i ≠ 0 → f' i = f i) : ∀ m, ((seatsF k E f m).1 ≠ -1 → (seatsF k E f' m).1 = (seatsF k E f m).1) ∧ ((seatsF k E f m).2 ≠ -1 → (seatsF k E f' m).2 = (seatsF k E f m).2) := by
  intro m
  induction m using Nat.strongRecOn with
  | _ m ih =>
    by_cases h : 2 * m < 2 ^ k
    · rw [seats_first f h, seats_first f' h]; exact ⟨fun _ => rfl, fun _ => rfl⟩
    · by_cases h1 : m + 1 < 2 ^ k
      · rw [seats_later f h h1, seats_later f' h h1]
        have i1 := ih (2 * m - 2 ^ k) (by omega)
        have i2 := ih (2 * m - 2 ^ k + 1) (by omega)
        exact ⟨fun hn => pick_eq hn (hf _) i1.1 i1.2, fun hn => pick_eq hn (hf _) i2.1 i2.2⟩
      · rw [seatsF, if_neg h, dif_neg h1, seatsF, if_neg h, dif_neg h1]; exact ⟨fun _ => rfl, fun _ => rfl⟩

/-- the size of a bracket of so many entrants -/
structure Sz (k E : Nat) : Prop where
  one : 1 ≤ k
  six : k ≤ 6
  lo : 2 ^ k < 2 * E
  hi : E ≤ 2 ^ k

theorem Sz.pow {k E : Nat} (h : Sz k E) : ∃ H, 2 ^ k = 2 * H ∧ 1 ≤ H ∧ H ≤ 32 ∧ 2 ^ (k - 1) = H := by
  have h1 := h.one
  have h6 := h.six
  obtain rfl | rfl | rfl | rfl | rfl | rfl : k = 1 ∨ k = 2 ∨ k = 3 ∨ k = 4 ∨ k = 5 ∨ k = 6 := by omega
  · exact ⟨1, by decide⟩
  · exact ⟨2, by decide⟩
  · exact ⟨4, by decide⟩
  · exact ⟨8, by decide⟩
  · exact ⟨16, by decide⟩
  · exact ⟨32, by decide⟩
theorem Sz.ex {E : Nat} (h2 : 2 ≤ E) (h : E ≤ 64) : ∃ k, Sz k E := by
  by_cases a : E ≤ 2
  · exact ⟨1, by decide, by decide, by omega, by omega⟩
  by_cases a : E ≤ 4
  · exact ⟨2, by decide, by decide, by omega, by omega⟩
  by_cases a : E ≤ 8
  · exact ⟨3, by decide, by decide, by omega, by omega⟩
  by_cases a : E ≤ 16
  · exact ⟨4, by decide, by decide, by omega, by omega⟩
  by_cases a : E ≤ 32
  · exact ⟨5, by decide, by decide, by omega, by omega⟩
  · exact ⟨6, by decide, by decide, by omega, by omega⟩

/-- the first entrant of each match of the first round is there -/
theorem ent_even {k E : Nat} (hz : Sz k E) (m : Nat) : 0 ≤ ent k E (2 * m) := by
  have h1 := hz.one
  obtain ⟨j, rfl⟩ : ∃ j, k = j + 1 := ⟨k - 1, by omega⟩
  have hl := hz.lo
  have h2 : 2 ^ (j + 1) = 2 * 2 ^ j := by omega
  unfold ent
  rw [if_pos]
  · omega
  · unfold seedK
    rw [if_neg (by omega)]
    have := seedK_lt j (2 * m / 2)
    omega
theorem byeF_iff {k E : Nat} (hz : Sz k E) (m : Nat) : byeF k E m = true ↔ 2 * m < 2 ^ k ∧ ent k E (2 * m + 1) = -2 := by
  have := ent_even hz m
  unfold byeF
  simp only [Bool.and_eq_true, Bool.or_eq_true, decide_eq_true_eq]
  constructor
  · rintro ⟨h, h' | h'⟩
    · omega
    · exact ⟨h, h'⟩
  · rintro ⟨h, h'⟩
    exact ⟨h, .inr h'⟩
theorem freshF_eq {k E : Nat} (hz : Sz k E) (m : Nat) : freshF k E m = if byeF k E m then 1 else 0 := by
  have := ent_even hz m
  unfold freshF
  rw [if_neg (show ¬ ent k E (2 * m) = -2 by omega)]

/-- what all brackets meet: a bye is decided for its entrant, all else that is decided has two entrants -/
structure WF (k E : Nat) (f : Nat → Nat) : Prop where
  le : ∀ m, f m ≤ 2
  bye : ∀ m, byeF k E m = true → f m = 1
  two : ∀ m, m + 1 < 2 ^ k → byeF k E m = false → f m ≠ 0 → 0 ≤ (seatsF k E f m).1 ∧ 0 ≤ (seatsF k E f m).2
  out : ∀ m, ¬ m + 1 < 2 ^ k → f m = 0

theorem WF.fresh {k E : Nat} (hz : Sz k E) : WF k E (freshF k E) := by
  refine ⟨fun m => ?_, fun m h => ?_, fun m hm h hn => ?_, fun m hm => ?_⟩
  · rw [freshF_eq hz]; split <;> omega
  · rw [freshF_eq hz, if_pos h]
  · rw [freshF_eq hz, h] at hn; exact (hn rfl).elim
  · rw [freshF_eq hz, if_neg]
    intro h
    obtain ⟨H, hH, h1, _⟩ := hz.pow
    have := ((byeF_iff hz m).mp h).1
    omega

/-- a decided match has a winner -/
theorem WF.win {k E : Nat} {f : Nat → Nat} (hz : Sz k E) (h : WF k E f) {m : Nat} (hm : m + 1 < 2 ^ k) (hn : f m ≠ 0) : 0 ≤ winF k E f m := by
  unfold winF
  by_cases hb : byeF k E m = true
  · rw [h.bye m hb, seats_first f ((byeF_iff hz m).mp hb).1]
    exact ent_even hz m
  · obtain ⟨h1, h2⟩ := h.two m hm (by simpa using hb) hn
    have := h.le m
    unfold pick
    split
    · exact h1
    · rw [if_pos (by omega)]; exact h2
theorem winF_none {k E : Nat} {f : Nat → Nat} {m : Nat} (h : f m = 0) : winF k E f m = -1 := by simp [winF, pick, h]
theorem WF.win_iff {k E : Nat} {f : Nat → Nat} (hz : Sz k E) (h : WF k E f) {m : Nat} (hm : m + 1 < 2 ^ k) : winF k E f m ≠ -1 ↔ f m ≠ 0 := by
  constructor
  · intro hw he; exact hw (winF_none he)
  · intro hn; have := h.win hz hm hn; omega
/-- seats are entrants, byes or open -/
theorem WF.seat_later {k E : Nat} {f : Nat → Nat} (hz : Sz k E) (h : WF k E f) {m : Nat} (hm : ¬ 2 * m < 2 ^ k) (h1 : m + 1 < 2 ^ k) : -1 ≤ (seatsF k E f m).1 ∧ -1 ≤ (seatsF k E f m).2 := by
  rw [seats_later f hm h1]
  constructor
  · by_cases hn : f (2 * m - 2 ^ k) = 0
    · show -1 ≤ winF _ _ _ _; rw [winF_none hn]; decide
    · have := h.win hz (by omega) hn; show -1 ≤ winF _ _ _ _; omega
  · by_cases hn : f (2 * m - 2 ^ k + 1) = 0
    · show -1 ≤ winF _ _ _ _; rw [winF_none hn]; decide
    · have := h.win hz (by omega) hn; show -1 ≤ winF _ _ _ _; omega
/-- byes by the document are byes by the code -/
theorem WF.bye_seats {k E : Nat} {f : Nat → Nat} (hz : Sz k E) (h : WF k E f) {m : Nat} (h1 : m + 1 < 2 ^ k) : byeF k E m = (decide ((seatsF k E f m).1 = -2) || decide ((seatsF k E f m).2 = -2)) := by
  by_cases hm : 2 * m < 2 ^ k
  · rw [seats_first f hm]; simp [byeF, hm]
  · have := h.seat_later hz hm h1
    rw [Bool.eq_iff_iff]
    simp [byeF, hm]
    omega

theorem openF_iff {k E : Nat} {f : Nat → Nat} {m : Nat} : openF k E f m = true ↔ f m = 0 ∧ 0 ≤ (seatsF k E f m).1 ∧ 0 ≤ (seatsF k E f m).2 := by simp [openF]

theorem up_mono {f : Nat → Nat} {m v : Nat} (h : f m = 0) : ∀ i, f i ≠ 0 → upd f m v i = f i := fun i hi => upd_ne f v (fun he => hi (he ▸ h))

theorem open_lt {k E : Nat} {f : Nat → Nat} (hz : Sz k E) {m : Nat} (h : openF k E f m = true) (h1 : m + 1 < 2 ^ k) : byeF k E m = false := by
  obtain ⟨_, a, b⟩ := openF_iff.mp h
  cases hb : byeF k E m
  · rfl
  · obtain ⟨hm, he⟩ := (byeF_iff hz m).mp hb
    rw [seats_first f hm] at b
    have b' : 0 ≤ ent k E (2 * m + 1) := b
    omega

theorem WF.report {k E : Nat} {f : Nat → Nat} (hz : Sz k E) (h : WF k E f) {m v : Nat} (h1 : m + 1 < 2 ^ k) (ho : openF k E f m = true) (hv : v = 1 ∨ v = 2) : WF k E (upd f m v) := by
  obtain ⟨h0, a, b⟩ := openF_iff.mp ho
  have hb := open_lt hz ho h1
  have hmo := up_mono (v := v) h0
  refine ⟨fun i => ?_, fun i hi => ?_, fun i hi hbi hn => ?_, fun i hi => ?_⟩
  · by_cases e : i = m
    · rw [e, upd_same]; omega
    · rw [upd_ne _ _ e]; exact h.le i
  · have e : i ≠ m := fun e => by rw [e, hb] at hi; cases hi
    rw [upd_ne _ _ e]; exact h.bye i hi
  · have key : 0 ≤ (seatsF k E f i).1 ∧ 0 ≤ (seatsF k E f i).2 := by
      by_cases e : i = m
      · rw [e]; exact ⟨a, b⟩
      · rw [upd_ne _ _ e] at hn; exact h.two i hi hbi hn
    obtain ⟨m1, m2⟩ := seats_mono (k := k) (E := E) hmo i
    rw [m1 (by omega), m2 (by omega)]
    exact key
  · rw [upd_ne _ _ (by omega)]; exact h.out i hi

/-- the match in which the winner of a match has a seat -/
def nextF (k m : Nat) : Nat := (m + 2 ^ k) / 2

/-- what is undone changes no decided match, when the next one is not decided -/
theorem undo_seats {k E : Nat} {f : Nat → Nat} (hz : Sz k E) (h : WF k E f) {m : Nat} (h1 : m + 1 < 2 ^ k) (hx : f (nextF k m) = 0) : ∀ i, i + 1 < 2 ^ k → i ≠ m → f i ≠ 0 → seatsF k E (upd f m 0) i = seatsF k E f i := by
  obtain ⟨H, hH, hH1, _⟩ := hz.pow
  intro i
  induction i using Nat.strongRecOn with
  | _ i ih =>
    intro hi hne hn
    by_cases hm : 2 * i < 2 ^ k
    · rw [seats_first _ hm, seats_first _ hm]
    · have hb : byeF k E i = false := by simp [byeF, hm]
      have ⟨a, b⟩ := h.two i hi hb hn
      rw [seats_later f hm hi] at a b
      have a' : 0 ≤ winF k E f (2 * i - 2 ^ k) := a
      have b' : 0 ≤ winF k E f (2 * i - 2 ^ k + 1) := b
      have n1 : f (2 * i - 2 ^ k) ≠ 0 := fun he => by rw [winF_none he] at a'; omega
      have n2 : f (2 * i - 2 ^ k + 1) ≠ 0 := fun he => by rw [winF_none he] at b'; omega
      have e1 : 2 * i - 2 ^ k ≠ m := fun he => by
        have : nextF k m = i := by unfold nextF; omega
        rw [this] at hx; exact hn hx
      have e2 : 2 * i - 2 ^ k + 1 ≠ m := fun he => by
        have : nextF k m = i := by unfold nextF; omega
        rw [this] at hx; exact hn hx
      rw [seats_later _ hm hi, seats_later _ hm hi]
      have i1 := ih (2 * i - 2 ^ k) (by omega) (by omega) e1 n1
      have i2 := ih (2 * i - 2 ^ k + 1) (by omega) (by omega) e2 n2
      unfold winF
      rw [i1, i2, upd_ne _ _ e1, upd_ne _ _ e2]

theorem WF.undo {k E : Nat} {f : Nat → Nat} (hz : Sz k E) (h : WF k E f) {m : Nat} (h1 : m + 1 < 2 ^ k) (hb : byeF k E m = false) (hx : f (nextF k m) = 0) : WF k E (upd f m 0) := by
  refine ⟨fun i => ?_, fun i hi => ?_, fun i hi hbi hn => ?_, fun i hi => ?_⟩
  · by_cases e : i = m
    · rw [e, upd_same]; omega
    · rw [upd_ne _ _ e]; exact h.le i
  · have e : i ≠ m := fun e => by rw [e, hb] at hi; cases hi
    rw [upd_ne _ _ e]; exact h.bye i hi
  · have e : i ≠ m := fun e => by rw [e, upd_same] at hn; exact hn rfl
    rw [upd_ne _ _ e] at hn
    rw [undo_seats hz h h1 hx i hi e hn]
    exact h.two i hi hbi hn
  · rw [upd_ne _ _ (by omega)]; exact h.out i hi
end Go.Proofs.YtphlpclhmodekaaDoor
