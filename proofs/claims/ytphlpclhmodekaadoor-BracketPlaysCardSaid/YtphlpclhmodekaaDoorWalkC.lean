/-
  Bracket: the entrants of every match.
-/
import Derived.Test.YtphlpclhmodekaaDoorWalkB
set_option linter.unusedVariables false
set_option linter.unusedSimpArgs false
namespace Go.Proofs.YtphlpclhmodekaaDoor
open Go.RowKit Go.Zn
attribute [local go_sem] Oper.semAt_some

theorem seatsK (k E : Nat) (f : Nat → Nat) (b : Nat) : ∀ m, m + 1 < 2 ^ k → SeatsK k E f b m := by
  intro m
  induction m using Nat.strongRecOn with
  | _ m ih =>
    intro hm w hB
    have hle := hB.z.le
    have c1 := hB.size
    obtain ⟨H, hH, _⟩ := hB.z.pow
    have q0 : IntKind.i64.wrap (2 * (m : Int)) = 2 * (m : Int) := IntWalk.i64_in _ (by omega)
    have q0' : wrap64 (2 * (m : Int)) = 2 * (m : Int) := IntWalk.wrap64_in _ (by omega)
    have q1 : IntKind.i64.wrap (2 * (m : Int) + 1) = 2 * (m : Int) + 1 := IntWalk.i64_in _ (by omega)
    rw [hH] at c1
    have q2 : wrap64 (((2 * H : Nat) : Int) / 2) = H := (IntWalk.wrap64_in _ (by omega)).trans (by omega)
    have q2' : wrap64 ((2 * (H : Int)) / 2) = H := (IntWalk.wrap64_in _ (by omega)).trans (by omega)
    by_cases h2 : 2 * m < 2 ^ k
    · have hlt : decide (m < H) = true := decide_eq_true (by omega)
      rw [seats_first f h2]
      have HA := Lib.hid (fun w (hB : BS k E f b w) => (show Calls Tryd.prog 48 #[.pointer (some ⟨b, 0, none⟩), .int .i64 (2 * (m : Int))] w fun e w' => e = .returned (.int .i64 (ent k E (2 * m))) ∧ w' = w from entrant_any hB (p := 2 * m) (by omega)))
      have HC := Lib.hid (fun w (hB : BS k E f b w) => (show Calls Tryd.prog 48 #[.pointer (some ⟨b, 0, none⟩), .int .i64 (2 * (m : Int) + 1)] w fun e w' => e = .returned (.int .i64 (ent k E (2 * m + 1))) ∧ w' = w from entrant_any hB (p := 2 * m + 1) (by omega)))
      have HB := Lib.hid hB
      clear hB hH h2 hm ih hle
      go_enter Tryd.func29, Tryd.ntmps29
      go_wp2_with fail
      refine (HA.out _ HB.out).mono ?_
      rintro e w1 ⟨rfl, hk⟩
      have hk := hk.symm
      subst hk
      have hk := Kept.refl No w
      have HB1 := Lib.hid (HB.out.to hk (not_no _))
      have HK := Lib.hid hk
      clear hk
      go_wp2_with fail
      refine (HC.out _ HB1.out).mono ?_
      rintro e w2 ⟨rfl, hk⟩
      have hk := hk.symm
      subst hk
      have hk := Kept.refl No w
      have HK2 := Lib.hid (HK.out.and hk)
      clear hk
      go_wp2_with fail
      go_ret2
      exact ⟨rfl, rfl⟩
    · have hlt : decide (m < H) = false := decide_eq_false (by omega)
      rw [seats_later f h2 hm]
      obtain ⟨c, hc⟩ : ∃ c, 2 * m - 2 ^ k = c := ⟨_, rfl⟩
      have q3 : IntKind.i64.wrap ((c : Int) + 1) = (c : Int) + 1 := IntWalk.i64_in _ (by omega)
      have hb := fun w (hB : BS k E f b w) => before_any hB hm h2
      rw [hc] at hb
      rw [hc]
      have HBE := Lib.hid hb
      have HA := Lib.hid (fun w (hB : BS k E f b w) => winner_of (ih c (by omega) (by omega)) hB (by omega))
      have HC := Lib.hid (fun w (hB : BS k E f b w) => (show Calls Tryd.prog 32 #[.pointer (some ⟨b, 0, none⟩), .int .i64 ((c : Int) + 1)] w fun e w' => e = .returned (.int .i64 (winF k E f (c + 1))) ∧ w' = w from winner_of (ih (c + 1) (by omega) (by omega)) hB (by omega)))
      have HB := Lib.hid hB
      clear hB hH h2 hm ih hle hc hb
      go_enter Tryd.func29, Tryd.ntmps29
      go_wp2_with fail
      refine (HBE.out _ HB.out).mono ?_
      rintro e w1 ⟨rfl, hk⟩
      have hk := hk.symm
      subst hk
      have hk := Kept.refl No w
      have HB1 := Lib.hid (HB.out.to hk (not_no _))
      have HK := Lib.hid hk
      clear hk
      go_wp2_with fail
      refine (HA.out _ HB1.out).mono ?_
      rintro e w2 ⟨rfl, hk⟩
      have hk := hk.symm
      subst hk
      have hk := Kept.refl No w
      have HB2 := Lib.hid (HB1.out.to hk (not_no _))
      have HK2 := Lib.hid (HK.out.and hk)
      clear hk
      go_wp2_with fail
      refine (HC.out _ HB2.out).mono ?_
      rintro e w3 ⟨rfl, hk⟩
      have hk := hk.symm
      subst hk
      have hk := Kept.refl No w
      have HK3 := Lib.hid (HK2.out.and hk)
      clear hk
      go_wp2_with fail
      go_ret2
      exact ⟨rfl, rfl⟩

theorem seats_any {k E : Nat} {f : Nat → Nat} {b : Nat} {w : World} (hB : BS k E f b w) {m : Nat} (hm : m + 1 < 2 ^ k) : Calls Tryd.prog 29 #[.pointer (some ⟨b, 0, none⟩), .int .i64 (m : Nat)] w fun e w' => e = .returned (.tuple #[.int .i64 (seatsF k E f m).1, .int .i64 (seatsF k E f m).2]) ∧ w' = w := seatsK k E f b m hm w hB
theorem winner_any {k E : Nat} {f : Nat → Nat} {b : Nat} {w : World} (hB : BS k E f b w) {m : Nat} (hm : m + 1 < 2 ^ k) : Calls Tryd.prog 32 #[.pointer (some ⟨b, 0, none⟩), .int .i64 (m : Nat)] w fun e w' => e = .returned (.int .i64 (winF k E f m)) ∧ w' = w := winner_of (seatsK k E f b m hm) hB hm
end Go.Proofs.YtphlpclhmodekaaDoor
