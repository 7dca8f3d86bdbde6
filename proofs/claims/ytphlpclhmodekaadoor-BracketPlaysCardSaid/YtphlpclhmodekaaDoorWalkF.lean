/-
  Bracket: Report and Undo.
-/
import Derived.Test.YtphlpclhmodekaaDoorWalkE
import Derived.Deep.RegionHeld3
set_option linter.unusedVariables false
set_option linter.unusedSimpArgs false
namespace Go.Proofs.YtphlpclhmodekaaDoor
open Go.RowKit Go.Zn
attribute [local go_sem] Oper.semAt_some

theorem report_open {k E : Nat} {f : Nat → Nat} {b : Nat} {w : World} (hB : BS k E f b w) {m s : Nat} (hm : m + 1 < 2 ^ k) (hs : s ≤ 1) (ho : openF k E f m = true) : Calls Tryd.prog 13 #[.pointer (some ⟨b, 0, none⟩), .int .i64 (m : Nat), .int .i64 (s : Nat)] w fun e w' => e = .returned (.int .i64 0) ∧ BS k E (upd f m (s + 1)) b w' ∧ Kept (fun i => i = b) w w' := by
  have hle := hB.z.le
  have hmo : m < 63 := by omega
  have HN := Lib.hid (fun w (hB : BS k E f b w) => none_no hB)
  have HO := Lib.hid (fun w (hB : BS k E f b w) => (show Calls Tryd.prog 31 #[.pointer (some ⟨b, 0, none⟩), .int .i64 (m : Nat)] w fun e w' => e = .returned (.bool true) ∧ w' = w from ho ▸ open_any hB hm))
  have HP := Lib.hid (fun w (hB : BS k E f b w) => hB.put (v := s + 1) hm (hB.wf.report hB.z hm ho (by omega)))
  have HM := Lib.hid hm
  obtain ⟨S, hS⟩ : ∃ S, 2 ^ k = S := ⟨_, rfl⟩
  have HC1 := Lib.hid (fun w (hB : BS k E f b w) => (show w.cell? ⟨b, 1, none⟩ = some (.int .i64 (S : Nat)) by rw [← hS]; exact hB.size))
  have HB := Lib.hid hB
  rw [hS] at hm hle
  have q0 : IntKind.i64.wrap ((S : Int) - 1) = (S : Int) - 1 := IntWalk.i64_in _ (by omega)
  have q1 : decide ((S : Int) - 1 ≤ (m : Int)) = false := decide_eq_false (by omega)
  obtain ⟨d, hd⟩ : ∃ d, f m = d := ⟨_, rfl⟩
  have HD := Lib.hid hd
  clear hB hS hle hm ho hd
  obtain rfl | rfl : s = 0 ∨ s = 1 := by omega
  all_goals
    clear hs
    go_enter Tryd.func13, Tryd.ntmps13
    go_wp2_with fail
    refine (HN.out _ HB.out).mono ?_
    rintro e w1 ⟨rfl, hk⟩
    have hk := hk.symm
    subst hk
    have hk := Kept.refl No w
    have HB1 := Lib.hid (HB.out.to hk (not_no _))
    have HK1 := Lib.hid hk
    clear hk
    have c1 := HC1.out _ HB1.out
    go_wp2_with fail
    refine (HO.out _ HB1.out).mono ?_
    rintro e w2 ⟨rfl, hk⟩
    have hk := hk.symm
    subst hk
    have hk := Kept.refl No w
    have HB2 := Lib.hid (HB1.out.to hk (not_no _))
    have HK2 := Lib.hid (HK1.out.and hk)
    clear hk
    have cm := HB2.out.won HM.out
    have ym := HB2.out.free (2 + m)
    go_wp2_with fail
    go_ret
    exact ⟨rfl, HP.out _ HB2.out, (HK2.out.any (T := fun i => i = b)).setCell (fun _ => rfl) _⟩
theorem report_arg {k E : Nat} {f : Nat → Nat} {b : Nat} {w : World} (hB : BS k E f b w) (m s : Int) (h0 : s ≠ 0) (h1 : s ≠ 1) : Calls Tryd.prog 13 #[.pointer (some ⟨b, 0, none⟩), .int .i64 m, .int .i64 s] w fun e w' => e = .returned (.int .i64 2) ∧ w' = w := by
  have hle := hB.z.le
  have HN := Lib.hid (fun w (hB : BS k E f b w) => none_no hB)
  have HB := Lib.hid hB
  have q1 : (s != 0) = true := by simpa using h0
  have q2 : (s != 1) = true := by simpa using h1
  clear hB hle
  go_enter Tryd.func13, Tryd.ntmps13
  go_wp2_with fail
  refine (HN.out _ HB.out).mono ?_
  rintro e w1 ⟨rfl, hk⟩
  have hk := hk.symm
  subst hk
  have hk := Kept.refl No w
  have HK1 := Lib.hid hk
  clear hk
  go_wp2_with fail
  go_ret
  exact ⟨rfl, rfl⟩
theorem report_out {k E : Nat} {f : Nat → Nat} {b : Nat} {w : World} (hB : BS k E f b w) {m s : Int} (hs : s = 0 ∨ s = 1) (hm : m < 0 ∨ ((2 ^ k : Nat) : Int) - 1 ≤ m) : Calls Tryd.prog 13 #[.pointer (some ⟨b, 0, none⟩), .int .i64 m, .int .i64 s] w fun e w' => e = .returned (.int .i64 3) ∧ w' = w := by
  have hle := hB.z.le
  have HN := Lib.hid (fun w (hB : BS k E f b w) => none_no hB)
  obtain ⟨S, hS⟩ : ∃ S, 2 ^ k = S := ⟨_, rfl⟩
  have HC1 := Lib.hid (fun w (hB : BS k E f b w) => (show w.cell? ⟨b, 1, none⟩ = some (.int .i64 (S : Nat)) by rw [← hS]; exact hB.size))
  have HB := Lib.hid hB
  have hp1 := Nat.one_le_two_pow (n := k)
  rw [hS] at hm hle hp1
  have q0 : IntKind.i64.wrap ((S : Int) - 1) = (S : Int) - 1 := IntWalk.i64_in _ (by omega)
  clear hB hS hle hp1
  by_cases hneg : m < 0
  · have q1 : decide (m < 0) = true := decide_eq_true hneg
    clear hneg hm
    rcases hs with rfl | rfl
    all_goals
      go_enter Tryd.func13, Tryd.ntmps13
      go_wp2_with fail
      refine (HN.out _ HB.out).mono ?_
      rintro e w1 ⟨rfl, hk⟩
      have hk := hk.symm
      subst hk
      have hk := Kept.refl No w
      have HB1 := Lib.hid (HB.out.to hk (not_no _))
      have HK1 := Lib.hid hk
      clear hk
      have c1 := HC1.out _ HB1.out
      go_wp2_with fail
      go_ret
      exact ⟨rfl, rfl⟩
  · have q1 : decide (m < 0) = false := decide_eq_false hneg
    have q2 : decide ((S : Int) - 1 ≤ m) = true := decide_eq_true (by omega)
    clear hneg hm
    rcases hs with rfl | rfl
    all_goals
      go_enter Tryd.func13, Tryd.ntmps13
      go_wp2_with fail
      refine (HN.out _ HB.out).mono ?_
      rintro e w1 ⟨rfl, hk⟩
      have hk := hk.symm
      subst hk
      have hk := Kept.refl No w
      have HB1 := Lib.hid (HB.out.to hk (not_no _))
      have HK1 := Lib.hid hk
      clear hk
      have c1 := HC1.out _ HB1.out
      go_wp2_with fail
      go_ret
      exact ⟨rfl, rfl⟩
theorem report_shut {k E : Nat} {f : Nat → Nat} {b : Nat} {w : World} (hB : BS k E f b w) {m : Nat} {s : Int} (hs : s = 0 ∨ s = 1) (hm : m + 1 < 2 ^ k) (ho : openF k E f m = false) : Calls Tryd.prog 13 #[.pointer (some ⟨b, 0, none⟩), .int .i64 (m : Nat), .int .i64 s] w fun e w' => e = .returned (.int .i64 8) ∧ w' = w := by
  have hle := hB.z.le
  have HN := Lib.hid (fun w (hB : BS k E f b w) => none_no hB)
  have HO := Lib.hid (fun w (hB : BS k E f b w) => (show Calls Tryd.prog 31 #[.pointer (some ⟨b, 0, none⟩), .int .i64 (m : Nat)] w fun e w' => e = .returned (.bool false) ∧ w' = w from ho ▸ open_any hB hm))
  obtain ⟨S, hS⟩ : ∃ S, 2 ^ k = S := ⟨_, rfl⟩
  have HC1 := Lib.hid (fun w (hB : BS k E f b w) => (show w.cell? ⟨b, 1, none⟩ = some (.int .i64 (S : Nat)) by rw [← hS]; exact hB.size))
  have HB := Lib.hid hB
  have hp1 := Nat.one_le_two_pow (n := k)
  rw [hS] at hm hle hp1
  have q0 : IntKind.i64.wrap ((S : Int) - 1) = (S : Int) - 1 := IntWalk.i64_in _ (by omega)
  have q1 : decide ((S : Int) - 1 ≤ (m : Int)) = false := decide_eq_false (by omega)
  clear hB hS hle hp1 hm ho
  rcases hs with rfl | rfl
  all_goals
    go_enter Tryd.func13, Tryd.ntmps13
    go_wp2_with fail
    refine (HN.out _ HB.out).mono ?_
    rintro e w1 ⟨rfl, hk⟩
    have hk := hk.symm
    subst hk
    have hk := Kept.refl No w
    have HB1 := Lib.hid (HB.out.to hk (not_no _))
    have HK1 := Lib.hid hk
    clear hk
    have c1 := HC1.out _ HB1.out
    go_wp2_with fail
    refine (HO.out _ HB1.out).mono ?_
    rintro e w2 ⟨rfl, hk⟩
    have hk := hk.symm
    subst hk
    have hk := Kept.refl No w
    have HK2 := Lib.hid (HK1.out.and hk)
    clear hk
    go_wp2_with fail
    go_ret
    exact ⟨rfl, rfl⟩

theorem undo_out {k E : Nat} {f : Nat → Nat} {b : Nat} {w : World} (hB : BS k E f b w) {m : Int} (hm : m < 0 ∨ ((2 ^ k : Nat) : Int) - 1 ≤ m) : Calls Tryd.prog 14 #[.pointer (some ⟨b, 0, none⟩), .int .i64 m] w fun e w' => e = .returned (.int .i64 3) ∧ w' = w := by
  have hle := hB.z.le
  have HN := Lib.hid (fun w (hB : BS k E f b w) => none_no hB)
  obtain ⟨S, hS⟩ : ∃ S, 2 ^ k = S := ⟨_, rfl⟩
  have HC1 := Lib.hid (fun w (hB : BS k E f b w) => (show w.cell? ⟨b, 1, none⟩ = some (.int .i64 (S : Nat)) by rw [← hS]; exact hB.size))
  have HB := Lib.hid hB
  have hp1 := Nat.one_le_two_pow (n := k)
  rw [hS] at hm hle hp1
  have q0 : IntKind.i64.wrap ((S : Int) - 1) = (S : Int) - 1 := IntWalk.i64_in _ (by omega)
  clear hB hS hle hp1
  by_cases hneg : m < 0
  · have q1 : decide (m < 0) = true := decide_eq_true hneg
    clear hneg hm
    go_enter Tryd.func14, Tryd.ntmps14
    go_wp2_with fail
    refine (HN.out _ HB.out).mono ?_
    rintro e w1 ⟨rfl, hk⟩
    have hk := hk.symm
    subst hk
    have hk := Kept.refl No w
    have HB1 := Lib.hid (HB.out.to hk (not_no _))
    have HK1 := Lib.hid hk
    clear hk
    have c1 := HC1.out _ HB1.out
    go_wp2_with fail
    go_ret
    exact ⟨rfl, rfl⟩
  · have q1 : decide (m < 0) = false := decide_eq_false hneg
    have q2 : decide ((S : Int) - 1 ≤ m) = true := decide_eq_true (by omega)
    clear hneg hm
    go_enter Tryd.func14, Tryd.ntmps14
    go_wp2_with fail
    refine (HN.out _ HB.out).mono ?_
    rintro e w1 ⟨rfl, hk⟩
    have hk := hk.symm
    subst hk
    have hk := Kept.refl No w
    have HB1 := Lib.hid (HB.out.to hk (not_no _))
    have HK1 := Lib.hid hk
    clear hk
    have c1 := HC1.out _ HB1.out
    go_wp2_with fail
    go_ret
    exact ⟨rfl, rfl⟩

/-- may be undone -/
def undoB (k E : Nat) (f : Nat → Nat) (m : Nat) : Bool := !decide (f m = 0) && (!byeF k E m && (!decide (m + 2 < 2 ^ k) || decide (f (nextF k m) = 0)))
end Go.Proofs.YtphlpclhmodekaaDoor
