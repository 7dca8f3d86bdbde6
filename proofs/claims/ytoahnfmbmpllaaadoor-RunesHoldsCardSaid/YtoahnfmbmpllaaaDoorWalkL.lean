/-
  Runes: the walk of RunesFits.
-/
import Derived.Test.YtoahnfmbmpllaaaDoorWalkK
set_option linter.unusedVariables false
set_option linter.unusedSimpArgs false
namespace Go.Proofs.YtoahnfmbmpllaaaDoor
open Go.RowKit Go.Zn
attribute [local go_sem] Oper.semAt_some

theorem fitsL_long {s : ByteArray} (h : 300 < s.size) (hmax : s.size ≤ maxLen) (k : Int) {w : World} (hV : VS w) : Calls Tryd.prog 3 #[.string s, .int .i64 k] w fun e w' => e = .returned (.bool true) ∧ Kept No w w' := by
  have HKN := Lib.hid (known_any hV)
  have q1 : decide (300 < s.size) = true := decide_eq_true h
  have q1' : decide ((300 : Int) < (s.size : Int)) = true := decide_eq_true (by omega)
  unfold maxLen at hmax
  clear h hV
  go_enter Tryd.func3, Tryd.ntmps3
  go_wp2_with fail
  refine HKN.out.mono ?_
  rintro e w1 ⟨rfl, hk⟩
  have HK := Lib.hid hk
  clear hk
  go_wp2_with fail
  go_ret
  exact ⟨rfl, HK.out⟩
set_option maxHeartbeats 4000000 in
theorem fitsL_in {l : List UInt8} (hl : l.length ≤ 300) (k : Int) {w : World} (hV : VS w) : Calls Tryd.prog 3 #[.string (strOf l), .int .i64 k] w fun e w' => e = .returned (.bool true) ∧ Kept No w w' := by
  have hsz := strOf_size l
  have HW := Lib.hid (width_any (show l.length ≤ 100000 by omega) hV)
  have HKN := Lib.hid (fun w (h : VS w) => known_any h)
  have HV := Lib.hid hV
  have HRW := Lib.hid (show ∀ (w : World) (v : Value) (n : Nat) (B : Nat → Prop), Rd w B 1 v n (i32s (rns l)) → Calls Tryd.prog 7 #[v] w fun e w' => e = .returned (.int .i64 (widthS l : Nat)) ∧ w' = w from fun w v n B h => rwidth_any (show (rns l).length ≤ 100000 by have := rns_len l; omega) (fun c hc => (rns_scal l c hc).le) h)
  have HL := Lib.hid hl
  obtain ⟨W, hW⟩ : ∃ W, widthS l = W := ⟨_, rfl⟩
  rw [hW] at HW HRW
  clear hW hV
  by_cases hk : k < 0 ∨ 200 < k
  · have HFB := Lib.hid (fun w => fits_true ((fit_bad hk (strOf l) w).mono (R' := fun e w' => e = .returned (.tuple #[.string ⟨#[]⟩, .int .i64 2]) ∧ Kept No w w') fun e w' ⟨he, hw⟩ => ⟨he, hw ▸ Kept.refl No w⟩))
    by_cases h1 : k < 0
    · have d1 : decide (k < 0) = true := decide_eq_true h1
      clear hk h1
      go_enter Tryd.func3, Tryd.ntmps3
      go_wp2_with fail
      refine HW.out.mono ?_
      rintro e w1 ⟨rfl, hk⟩
      have HK1 := Lib.hid hk
      clear hk
      obtain ⟨cap, w2, hcv, hown, hk2⟩ := runes_row l (by omega) w1
      have HR2 := Lib.hid (HRW.out w2 _ _ _ (rd_owned hown))
      have HK2 := Lib.hid (HK1.out.and hk2)
      clear hown hk2
      go_wp2_with fail
      refine HR2.out.mono ?_
      rintro e w3 ⟨rfl, hk⟩
      have hk := hk.symm
      subst hk
      go_wp2_with fail
      refine (HFB.out _).mono ?_
      rintro e w5 ⟨rfl, hk⟩
      have HK5 := Lib.hid (HK2.out.and hk)
      clear hk
      go_wp2_with fail
      refine (HKN.out _ (HV.out.no HK5.out)).mono ?_
      rintro e w6 ⟨rfl, hk⟩
      have HK6 := Lib.hid (HK5.out.and hk)
      clear hk
      go_wp2_with fail
      go_ret
      exact ⟨rfl, HK6.out⟩
    · have d1 : decide (k < 0) = false := decide_eq_false h1
      have d2 : decide (200 < k) = true := decide_eq_true (by omega)
      clear hk h1
      go_enter Tryd.func3, Tryd.ntmps3
      go_wp2_with fail
      refine HW.out.mono ?_
      rintro e w1 ⟨rfl, hk⟩
      have HK1 := Lib.hid hk
      clear hk
      obtain ⟨cap, w2, hcv, hown, hk2⟩ := runes_row l (by omega) w1
      have HR2 := Lib.hid (HRW.out w2 _ _ _ (rd_owned hown))
      have HK2 := Lib.hid (HK1.out.and hk2)
      clear hown hk2
      go_wp2_with fail
      refine HR2.out.mono ?_
      rintro e w3 ⟨rfl, hk⟩
      have hk := hk.symm
      subst hk
      go_wp2_with fail
      refine (HFB.out _).mono ?_
      rintro e w5 ⟨rfl, hk⟩
      have HK5 := Lib.hid (HK2.out.and hk)
      clear hk
      go_wp2_with fail
      refine (HKN.out _ (HV.out.no HK5.out)).mono ?_
      rintro e w6 ⟨rfl, hk⟩
      have HK6 := Lib.hid (HK5.out.and hk)
      clear hk
      go_wp2_with fail
      go_ret
      exact ⟨rfl, HK6.out⟩
  · obtain ⟨n, rfl⟩ := Int.eq_ofNat_of_zero_le (show 0 ≤ k by omega)
    have hn : n ≤ 200 := by omega
    have d1 : decide ((n : Int) < 0) = false := decide_eq_false (by omega)
    have d2 : decide (200 < (n : Int)) = false := decide_eq_false (by omega)
    have d2' : decide (200 < n) = false := decide_eq_false (by omega)
    have HRF := Lib.hid (fun w => rfit_any (show l.length ≤ 1000 by omega) hn w)
    have HFT := Lib.hid (fun w (h : VS w) => fits_true (fit_any (show l.length ≤ 100000 by omega) hn h))
    clear hk
    go_enter Tryd.func3, Tryd.ntmps3
    go_wp2_with fail
    refine HW.out.mono ?_
    rintro e w1 ⟨rfl, hk⟩
    have HK1 := Lib.hid hk
    clear hk
    obtain ⟨cap, w2, hcv, hown, hk2⟩ := runes_row l (by omega) w1
    have HR2 := Lib.hid (HRW.out w2 _ _ _ (rd_owned hown))
    have HK2 := Lib.hid (HK1.out.and hk2)
    clear hown hk2
    go_wp2_with fail
    refine HR2.out.mono ?_
    rintro e w3 ⟨rfl, hk⟩
    have hk := hk.symm
    subst hk
    go_wp2_with fail
    refine (HRF.out _).mono ?_
    rintro e w4 ⟨rfl, hk⟩
    have HK4 := Lib.hid (HK2.out.and hk)
    clear hk
    go_wp2_with fail
    refine (HFT.out _ (HV.out.no HK4.out)).mono ?_
    rintro e w5 ⟨rfl, hk⟩
    have HK5 := Lib.hid (HK4.out.and hk)
    clear hk
    go_wp2_with fail
    refine (HKN.out _ (HV.out.no HK5.out)).mono ?_
    rintro e w6 ⟨rfl, hk⟩
    have HK6 := Lib.hid (HK5.out.and hk)
    clear hk
    go_wp2_with fail
    go_ret
    exact ⟨rfl, HK6.out⟩
theorem fitsL_any {s : ByteArray} (hmax : s.size ≤ maxLen) (k : Int) {w : World} (hV : VS w) : Calls Tryd.prog 3 #[.string s, .int .i64 k] w fun e w' => e = .returned (.bool true) ∧ Kept No w w' := by
  by_cases h : 300 < s.size
  · exact fitsL_long h hmax k hV
  · obtain ⟨l, rfl⟩ : ∃ l, s = strOf l := ⟨s.data.toList, by simp [strOf]⟩
    rw [strOf_size] at h
    exact fitsL_in (by omega) k hV
end Go.Proofs.YtoahnfmbmpllaaaDoor
