/-
  Bracket: byes, open matches, nil and zero brackets, Seats, Champion, Matches.
-/
import Derived.Test.YtphlpclhmodekaaDoorWalkC
import Derived.Deep.MidRow
import Derived.Laws.StructEq
import Derived.ChangeKeysEq
set_option linter.unusedVariables false
set_option linter.unusedSimpArgs false
namespace Go.Proofs.YtphlpclhmodekaaDoor
open Go.RowKit Go.Zn
attribute [local go_sem] Oper.semAt_some

theorem bye_any {k E : Nat} {f : Nat → Nat} {b : Nat} {w : World} (hB : BS k E f b w) {m : Nat} (hm : m + 1 < 2 ^ k) : Calls Tryd.prog 28 #[.pointer (some ⟨b, 0, none⟩), .int .i64 (m : Nat)] w fun e w' => e = .returned (.bool (byeF k E m)) ∧ w' = w := by
  have hle := hB.z.le
  have c1 := hB.size
  obtain ⟨H, hH, _⟩ := hB.z.pow
  rw [hH] at c1
  have q2 : wrap64 ((2 * (H : Int)) / 2) = H := (IntWalk.wrap64_in _ (by omega)).trans (by omega)
  have hbs := hB.wf.bye_seats hB.z hm
  have hs := fun w (hB : BS k E f b w) => seats_any hB hm
  obtain ⟨⟨x, y⟩, hxy⟩ : ∃ s, seatsF k E f m = s := ⟨_, rfl⟩
  rw [hxy] at hbs
  have HS := Lib.hid (fun w (hB : BS k E f b w) => (show Calls Tryd.prog 29 #[.pointer (some ⟨b, 0, none⟩), .int .i64 (m : Nat)] w fun e w' => e = .returned (.tuple #[.int .i64 x, .int .i64 y]) ∧ w' = w by have := hs w hB; rw [hxy] at this; exact this))
  clear hs
  have HB := Lib.hid hB
  by_cases h2 : 2 * m < 2 ^ k
  · have q3 : decide (H ≤ m) = false := decide_eq_false (by omega)
    obtain ⟨R, hR⟩ : ∃ R, byeF k E m = R := ⟨_, rfl⟩
    rw [hR] at hbs
    rw [hR]
    clear hB hm hle hH h2 hR hxy
    by_cases hx : x = -2
    · have HR := Lib.hid (show R = true by rw [hbs]; simp [hx])
      clear hbs
      go_enter Tryd.func28, Tryd.ntmps28
      go_wp2_with fail
      refine (HS.out _ HB.out).mono ?_
      rintro e w1 ⟨rfl, hk⟩
      have hk := hk.symm
      subst hk
      have hk := Kept.refl No w
      have HK := Lib.hid hk
      clear hk
      go_wp2_with fail
      go_ret
      exact ⟨by rw [HR.out]; rfl, rfl⟩
    · have q4 : (x == -2) = false := by simpa using hx
      by_cases hy : y = -2
      · have HR := Lib.hid (show R = true by rw [hbs]; simp [hy])
        clear hbs hx
        go_enter Tryd.func28, Tryd.ntmps28
        go_wp2_with fail
        refine (HS.out _ HB.out).mono ?_
        rintro e w1 ⟨rfl, hk⟩
        have hk := hk.symm
        subst hk
        have hk := Kept.refl No w
        have HK := Lib.hid hk
        clear hk
        go_wp2_with fail
        go_ret
        exact ⟨by rw [HR.out]; rfl, rfl⟩
      · have q5 : (y == -2) = false := by simpa using hy
        have HR := Lib.hid (show R = false by rw [hbs]; simp [hx, hy])
        clear hbs hx hy
        go_enter Tryd.func28, Tryd.ntmps28
        go_wp2_with fail
        refine (HS.out _ HB.out).mono ?_
        rintro e w1 ⟨rfl, hk⟩
        have hk := hk.symm
        subst hk
        have hk := Kept.refl No w
        have HK := Lib.hid hk
        clear hk
        go_wp2_with fail
        go_ret
        exact ⟨by rw [HR.out]; rfl, rfl⟩
  · have q3 : decide (H ≤ m) = true := decide_eq_true (by omega)
    have HR := Lib.hid (show byeF k E m = false by simp [byeF, h2])
    clear hB hm hle hH h2 hxy hbs
    go_enter Tryd.func28, Tryd.ntmps28
    go_wp2_with fail
    go_ret
    exact ⟨by rw [HR.out]; rfl, rfl⟩

theorem open_any {k E : Nat} {f : Nat → Nat} {b : Nat} {w : World} (hB : BS k E f b w) {m : Nat} (hm : m + 1 < 2 ^ k) : Calls Tryd.prog 31 #[.pointer (some ⟨b, 0, none⟩), .int .i64 (m : Nat)] w fun e w' => e = .returned (.bool (openF k E f m)) ∧ w' = w := by
  have hle := hB.z.le
  have hmo : m < 63 := by omega
  have hs := fun w (hB : BS k E f b w) => seats_any hB hm
  have hf := hB.wf.le m
  obtain ⟨⟨x, y⟩, hxy⟩ : ∃ s, seatsF k E f m = s := ⟨_, rfl⟩
  have HS := Lib.hid (fun w (hB : BS k E f b w) => (show Calls Tryd.prog 29 #[.pointer (some ⟨b, 0, none⟩), .int .i64 (m : Nat)] w fun e w' => e = .returned (.tuple #[.int .i64 x, .int .i64 y]) ∧ w' = w by have := hs w hB; rw [hxy] at this; exact this))
  have hop : openF k E f m = (decide (f m = 0) && (decide (0 ≤ x) && decide (0 ≤ y))) := by unfold openF; rw [hxy]
  clear hs
  have HB := Lib.hid hB
  have HM := Lib.hid hm
  obtain ⟨d, hd⟩ : ∃ d, f m = d := ⟨_, rfl⟩
  obtain ⟨R, hR⟩ : ∃ R, openF k E f m = R := ⟨_, rfl⟩
  rw [hd] at hop hf
  rw [hR] at hop
  rw [hR]
  have HD := Lib.hid hd
  clear hd hR hxy hB hm hle
  by_cases h0 : d = 0
  · subst h0
    by_cases hx : 0 ≤ x
    · have q1 : decide (0 ≤ x) = true := decide_eq_true hx
      have HR := Lib.hid (show R = decide (0 ≤ y) by rw [hop]; simp [hx])
      clear hop hx hf
      obtain ⟨c, hc⟩ : ∃ c, decide (0 ≤ y) = c := ⟨_, rfl⟩
      rw [hc] at HR
      go_enter Tryd.func31, Tryd.ntmps31
      go_wp2_with fail
      refine (HS.out _ HB.out).mono ?_
      rintro e w1 ⟨rfl, hk⟩
      have hk := hk.symm
      subst hk
      have hk := Kept.refl No w
      have cm := (HB.out.to hk (not_no _)).won HM.out
      rw [HD.out] at cm
      have HK := Lib.hid hk
      clear hk
      go_wp2_with fail
      go_ret
      exact ⟨by rw [HR.out]; rfl, rfl⟩
    · have q1 : decide (0 ≤ x) = false := decide_eq_false hx
      have HR := Lib.hid (show R = false by rw [hop]; simp [hx])
      clear hop hx hf
      go_enter Tryd.func31, Tryd.ntmps31
      go_wp2_with fail
      refine (HS.out _ HB.out).mono ?_
      rintro e w1 ⟨rfl, hk⟩
      have hk := hk.symm
      subst hk
      have hk := Kept.refl No w
      have cm := (HB.out.to hk (not_no _)).won HM.out
      rw [HD.out] at cm
      have HK := Lib.hid hk
      clear hk
      go_wp2_with fail
      go_ret
      exact ⟨by rw [HR.out]; rfl, rfl⟩
  · have HR := Lib.hid (show R = false by rw [hop]; simp [h0])
    have hd2 : d = 1 ∨ d = 2 := by omega
    clear hop hf h0
    rcases hd2 with rfl | rfl
    all_goals
      go_enter Tryd.func31, Tryd.ntmps31
      go_wp2_with fail
      refine (HS.out _ HB.out).mono ?_
      rintro e w1 ⟨rfl, hk⟩
      have hk := hk.symm
      subst hk
      have hk := Kept.refl No w
      have cm := (HB.out.to hk (not_no _)).won HM.out
      rw [HD.out] at cm
      have HK := Lib.hid hk
      clear hk
      go_wp2_with fail
      go_ret
      exact ⟨by rw [HR.out]; rfl, rfl⟩
end Go.Proofs.YtphlpclhmodekaaDoor
