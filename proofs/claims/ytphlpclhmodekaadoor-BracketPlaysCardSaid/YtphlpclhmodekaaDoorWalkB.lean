/-
  Bracket: the entrants of a match, its winner, byes, open matches.
-/
import Derived.Test.YtphlpclhmodekaaDoorWalkA
set_option linter.unusedVariables false
set_option linter.unusedSimpArgs false
namespace Go.Proofs.YtphlpclhmodekaaDoor
open Go.RowKit Go.Zn
attribute [local go_sem] Oper.semAt_some

abbrev P0 (b : Nat) : Value := .pointer (some ⟨b, 0, none⟩)

theorem entrant_any {k E : Nat} {f : Nat → Nat} {b : Nat} {w : World} (hB : BS k E f b w) {p : Nat} (hp : p < 2 ^ k) : Calls Tryd.prog 48 #[.pointer (some ⟨b, 0, none⟩), .int .i64 (p : Nat)] w fun e w' => e = .returned (.int .i64 (ent k E p)) ∧ w' = w := by
  have hc := fun w => seed_any k p w hB.z.six hp
  have c0 := hB.ent
  have c1 := hB.size
  have HB := Lib.hid hB
  obtain ⟨x, hx⟩ : ∃ x, seedK k p = x := ⟨_, rfl⟩
  obtain ⟨S, hS⟩ : ∃ S, 2 ^ k = S := ⟨_, rfl⟩
  have he : ent k E p = if x < E then (x : Int) else -2 := by unfold ent; rw [hx]
  rw [hx, hS] at hc
  rw [hS] at c1
  have HC := Lib.hid hc
  clear hc hB hp hx hS
  by_cases hlt : x < E
  · have q1 : decide (x < E) = true := decide_eq_true hlt
    have HR := Lib.hid (show ent k E p = (x : Int) by rw [he, if_pos hlt])
    clear hlt he
    go_enter Tryd.func48, Tryd.ntmps48
    go_wp2_with fail
    refine (HC.out _).mono ?_
    rintro e w1 ⟨rfl, hk⟩
    have hk := hk.symm
    subst hk
    have hk := Kept.refl No w
    have c0 := hk.cell c0 (not_no _)
    have HK := Lib.hid hk
    clear hk
    go_wp2_with fail
    go_ret
    exact ⟨by rw [HR.out]; rfl, rfl⟩
  · have q1 : decide (x < E) = false := decide_eq_false hlt
    have HR := Lib.hid (show ent k E p = -2 by rw [he, if_neg hlt])
    clear hlt he
    go_enter Tryd.func48, Tryd.ntmps48
    go_wp2_with fail
    refine (HC.out _).mono ?_
    rintro e w1 ⟨rfl, hk⟩
    have hk := hk.symm
    subst hk
    have hk := Kept.refl No w
    have c0 := hk.cell c0 (not_no _)
    have HK := Lib.hid hk
    clear hk
    go_wp2_with fail
    go_ret
    exact ⟨by rw [HR.out]; rfl, rfl⟩

theorem before_any {k E : Nat} {f : Nat → Nat} {b : Nat} {w : World} (hB : BS k E f b w) {m : Nat} (hm : m + 1 < 2 ^ k) (h2 : ¬ 2 * m < 2 ^ k) : Calls Tryd.prog 49 #[.pointer (some ⟨b, 0, none⟩), .int .i64 (m : Nat)] w fun e w' => e = .returned (.int .i64 ((2 * m - 2 ^ k : Nat) : Int)) ∧ w' = w := by
  have c1 := hB.size
  have hle := hB.z.le
  obtain ⟨S, hS⟩ : ∃ S, 2 ^ k = S := ⟨_, rfl⟩
  rw [hS] at c1 hle hm h2
  rw [hS]
  have q1 : wrap64 (2 * (m : Int)) = 2 * (m : Int) := IntWalk.wrap64_in _ (by omega)
  have q2 : IntKind.i64.wrap (2 * (m : Int)) = 2 * (m : Int) := IntWalk.i64_in _ (by omega)
  have q3 : IntKind.i64.wrap (2 * (m : Int) - S) = 2 * (m : Int) - S := IntWalk.i64_in _ (by omega)
  have HR := Lib.hid (show 2 * (m : Int) - S = ((2 * m - S : Nat) : Int) by omega)
  have HB := Lib.hid hB
  clear hB hS hm h2 hle
  go_enter Tryd.func49, Tryd.ntmps49
  go_wp2_with fail
  go_ret
  exact ⟨by rw [← HR.out]; rfl, rfl⟩

theorem next_any {k E : Nat} {f : Nat → Nat} {b : Nat} {w : World} (hB : BS k E f b w) {m : Nat} (hm : m + 1 < 2 ^ k) : Calls Tryd.prog 37 #[.pointer (some ⟨b, 0, none⟩), .int .i64 (m : Nat)] w fun e w' => e = .returned (.int .i64 (nextF k m : Nat)) ∧ w' = w := by
  have c1 := hB.size
  have hle := hB.z.le
  unfold nextF
  obtain ⟨S, hS⟩ : ∃ S, 2 ^ k = S := ⟨_, rfl⟩
  rw [hS] at c1 hle hm
  rw [hS]
  have q1 : IntKind.i64.wrap ((m : Int) + S) = (m : Int) + S := IntWalk.i64_in _ (by omega)
  have q3 : wrap64 (((m : Int) + S) / 2) = ((m : Int) + S) / 2 := IntWalk.wrap64_in _ (by omega)
  have HR := Lib.hid (show ((m : Int) + S) / 2 = (((m + S) / 2 : Nat) : Int) by omega)
  have HB := Lib.hid hB
  clear hB hS
  go_enter Tryd.func37, Tryd.ntmps37
  go_wp2_with fail
  go_ret
  exact ⟨by rw [← HR.out]; rfl, rfl⟩

/-- what seats gives for a match -/
def SeatsK (k E : Nat) (f : Nat → Nat) (b m : Nat) : Prop := ∀ w, BS k E f b w → Calls Tryd.prog 29 #[.pointer (some ⟨b, 0, none⟩), .int .i64 (m : Nat)] w fun e w' => e = .returned (.tuple #[.int .i64 (seatsF k E f m).1, .int .i64 (seatsF k E f m).2]) ∧ w' = w

theorem winner_of {k E : Nat} {f : Nat → Nat} {b : Nat} {m : Nat} (hs : SeatsK k E f b m) {w : World} (hB : BS k E f b w) (hm : m + 1 < 2 ^ k) : Calls Tryd.prog 32 #[.pointer (some ⟨b, 0, none⟩), .int .i64 (m : Nat)] w fun e w' => e = .returned (.int .i64 (winF k E f m)) ∧ w' = w := by
  have hle := hB.z.le
  have hf := hB.wf.le m
  obtain ⟨⟨x, y⟩, hxy⟩ : ∃ s, seatsF k E f m = s := ⟨_, rfl⟩
  have hc := hs w hB
  rw [hxy] at hc
  have hwin : winF k E f m = pick (f m) (x, y) := by unfold winF; rw [hxy]
  obtain ⟨R, hR⟩ : ∃ R, winF k E f m = R := ⟨_, rfl⟩
  rw [hR] at hwin
  rw [hR]
  have HC := Lib.hid hc
  have HB := Lib.hid hB
  have hmo : m < 63 := by omega
  have HM := Lib.hid hm
  clear hc hB hxy hR hs hm
  obtain ⟨d, hd⟩ : ∃ d, f m = d := ⟨_, rfl⟩
  rw [hd] at hf hwin
  have HD := Lib.hid hd
  clear hd
  obtain rfl | rfl | rfl : d = 0 ∨ d = 1 ∨ d = 2 := by omega
  all_goals
    have HR := Lib.hid hwin
    clear hwin
    go_enter Tryd.func32, Tryd.ntmps32
    go_wp2_with fail
    refine HC.out.mono ?_
    rintro e w1 ⟨rfl, hk⟩
    have hk := hk.symm
    subst hk
    have hk := Kept.refl No w
    have cm := (HB.out.to hk (not_no _)).won HM.out
    rw [HD.out] at cm
    have HK := Lib.hid hk
    clear hk
    go_wp2_with fail
    go_ret
    exact ⟨by rw [HR.out]; rfl, rfl⟩
end Go.Proofs.YtphlpclhmodekaaDoor
