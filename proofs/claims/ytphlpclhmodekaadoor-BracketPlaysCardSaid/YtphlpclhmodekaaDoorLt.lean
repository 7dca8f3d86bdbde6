/-
  Bracket: the plain model: the text of a bracket; a form of the seats that the kernel reckons.
-/
import Derived.Test.YtphlpclhmodekaaDoorLc
import Derived.Lib.ItoaNum
set_option linter.unusedVariables false
set_option linter.unusedSimpArgs false
namespace Go.Proofs.YtphlpclhmodekaaDoor

/-- the character of a match -/
def chF (k E : Nat) (f : Nat → Nat) (m : Nat) : UInt8 := if byeF k E m then 45 else if f m = 0 then 46 else if f m = 1 then 48 else 49
/-- the characters of the first n matches -/
def chsF (k E : Nat) (f : Nat → Nat) (n : Nat) : List UInt8 := (List.range n).map (chF k E f)
/-- the text -/
def textF (k E : Nat) (f : Nat → Nat) : List UInt8 := Lib.decDigits E ++ [58] ++ chsF k E f (2 ^ k - 1)
theorem chsF_succ (k E : Nat) (f : Nat → Nat) (n : Nat) : chsF k E f (n + 1) = chsF k E f n ++ [chF k E f n] := by
  unfold chsF
  rw [List.range_succ, List.map_append]
  rfl
theorem chsF_len (k E : Nat) (f : Nat → Nat) (n : Nat) : (chsF k E f n).length = n := by simp [chsF]

theorem chs_ne {k E : Nat} {f f' : Nat → Nat} {m n : Nat} (hm : m < n) (h : chF k E f m ≠ chF k E f' m) : chsF k E f n ≠ chsF k E f' n := by
  intro he
  have := congrArg (fun l => l[m]?) he
  simp [chsF, hm] at this
  exact h this
theorem text_ne {k E : Nat} {f : Nat → Nat} (hz : Sz k E) {m v : Nat} (h1 : m + 1 < 2 ^ k) (ho : openF k E f m = true) (hv : v = 1 ∨ v = 2) : textF k E (upd f m v) ≠ textF k E f := by
  have hb := open_lt hz ho h1
  obtain ⟨h0, _⟩ := openF_iff.mp ho
  intro he
  unfold textF at he
  have he2 := List.append_cancel_left he
  refine chs_ne (f := upd f m v) (f' := f) (show m < 2 ^ k - 1 by omega) ?_ he2
  unfold chF
  rw [hb, upd_same, h0]
  rcases hv with rfl | rfl <;> decide

/-- the seats, by steps that the kernel reckons -/
def seatsN (k E : Nat) (f : Nat → Nat) : Nat → Nat → Int × Int
  | 0, _ => (0, 0)
  | n + 1, m =>
    if 2 * m < 2 ^ k then (ent k E (2 * m), ent k E (2 * m + 1))
    else if m + 1 < 2 ^ k then (pick (f (2 * m - 2 ^ k)) (seatsN k E f n (2 * m - 2 ^ k)), pick (f (2 * m - 2 ^ k + 1)) (seatsN k E f n (2 * m - 2 ^ k + 1)))
    else (0, 0)
theorem seatsN_eq {k E : Nat} {f : Nat → Nat} : ∀ n m, m < n → seatsN k E f n m = seatsF k E f m
  | 0, m, h => by omega
  | n + 1, m, h => by
    unfold seatsN
    rw [seatsF]
    by_cases h1 : 2 * m < 2 ^ k
    · rw [if_pos h1, if_pos h1]
    · rw [if_neg h1, if_neg h1]
      by_cases h2 : m + 1 < 2 ^ k
      · rw [if_pos h2, dif_pos h2, seatsN_eq n _ (by omega), seatsN_eq n _ (by omega)]
      · rw [if_neg h2, dif_neg h2]
def winN (k E : Nat) (f : Nat → Nat) (m : Nat) : Int := pick (f m) (seatsN k E f 64 m)
theorem winN_eq {k E : Nat} {f : Nat → Nat} {m : Nat} (h : m < 64) : winN k E f m = winF k E f m := by unfold winN winF; rw [seatsN_eq 64 m h]
def openN (k E : Nat) (f : Nat → Nat) (m : Nat) : Bool := decide (f m = 0) && (decide (0 ≤ (seatsN k E f 64 m).1) && decide (0 ≤ (seatsN k E f 64 m).2))
theorem openN_eq {k E : Nat} {f : Nat → Nat} {m : Nat} (h : m < 64) : openN k E f m = openF k E f m := by unfold openN openF; rw [seatsN_eq 64 m h]
def openLN (k E : Nat) (f : Nat → Nat) (n : Nat) : List Nat := (List.range n).filter fun m => openN k E f m
theorem openLN_eq {k E : Nat} {f : Nat → Nat} {n : Nat} (h : n ≤ 64) : openLN k E f n = openL k E f n := by
  unfold openLN openL
  refine List.filter_congr fun m hm => ?_
  exact openN_eq (by have := List.mem_range.mp hm; omega)
def rankN (k E : Nat) (f : Nat → Nat) (e : Int) : Nat → Nat → Nat → Int
  | 0, _, _ => -9
  | n + 1, m, round =>
    if winN k E f m = -1 then -1
    else if winN k E f m ≠ e then round
    else if m + 2 < 2 ^ k then rankN k E f e n (nextF k m) (round + 1)
    else ((round + 1 : Nat) : Int)
theorem rankN_eq {k E : Nat} {f : Nat → Nat} {e : Int} (h6 : 2 ^ k ≤ 64) : ∀ n m r, m + 1 < 2 ^ k → 2 ^ k < m + n → rankN k E f e n m r = rankFrom k E f e m r
  | 0, m, r, h1, h2 => by omega
  | n + 1, m, r, h1, h2 => by
    unfold rankN
    rw [rankFrom, winN_eq (by omega)]
    by_cases a : winF k E f m = -1
    · rw [if_pos a, if_pos a]
    · rw [if_neg a, if_neg a]
      by_cases b : winF k E f m ≠ e
      · rw [if_pos b, if_pos b]
      · rw [if_neg b, if_neg b]
        by_cases c : m + 2 < 2 ^ k
        · rw [if_pos c, dif_pos c, rankN_eq h6 n _ _ (by unfold nextF; omega) (by unfold nextF; omega)]
        · rw [if_neg c, dif_neg c]
end Go.Proofs.YtphlpclhmodekaaDoor
