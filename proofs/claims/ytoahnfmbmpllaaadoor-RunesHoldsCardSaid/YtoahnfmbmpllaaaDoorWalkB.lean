/-
  Runes: what a rune becomes.
-/
import Derived.Test.YtoahnfmbmpllaaaDoorWalkA
set_option linter.unusedVariables false
set_option linter.unusedSimpArgs false
namespace Go.Proofs.YtoahnfmbmpllaaaDoor
open Go.RowKit Go.Zn
attribute [local go_sem] Oper.semAt_some

theorem encode_eq {c : Nat} (h : Scal c) : Utf8.encode (c : Int) = strOf (Lib.encodeRune (c : Int)) := by
  unfold Scal at h
  have hv : Utf8.valid (c : Int) = true := by
    unfold Utf8.valid
    simp
    omega
  unfold Utf8.encode
  rw [hv]
  simp only [if_true, Int.toNat_natCast]
  by_cases h1 : c ≤ 127
  · rw [if_pos (by omega)]
    have e : Lib.encodeRune (c : Int) = [((c : Int)).toNat.toUInt8] := by unfold Lib.encodeRune; rw [Lib.encodeRuneZ_one (by omega) (by omega)]; rfl
    rw [e]; rfl
  rw [if_neg (by omega)]
  by_cases h2 : c ≤ 2047
  · rw [if_pos (by omega)]
    have e : Lib.encodeRune (c : Int) = [((192 : Int) + c / 64).toNat.toUInt8, ((128 : Int) + c % 64).toNat.toUInt8] := by unfold Lib.encodeRune; rw [Lib.encodeRuneZ_two (by omega) (by omega)]; rfl
    rw [e]
    rw [show ((192 : Int) + c / 64).toNat = 0xC0 + c / 64 by omega, show ((128 : Int) + c % 64).toNat = 0x80 + c % 64 by omega]
    rfl
  rw [if_neg (by omega)]
  by_cases h3 : c ≤ 65535
  · rw [if_pos (by omega)]
    have e : Lib.encodeRune (c : Int) = [((224 : Int) + c / 4096).toNat.toUInt8, ((128 : Int) + c / 64 % 64).toNat.toUInt8, ((128 : Int) + c % 64).toNat.toUInt8] := by unfold Lib.encodeRune; rw [Lib.encodeRuneZ_three (by omega)]; rfl
    rw [e]
    rw [show ((224 : Int) + c / 4096).toNat = 0xE0 + c / 4096 by omega, show ((128 : Int) + c / 64 % 64).toNat = 0x80 + c / 64 % 64 by omega, show ((128 : Int) + c % 64).toNat = 0x80 + c % 64 by omega]
    rfl
  rw [if_neg (by omega)]
  have e : Lib.encodeRune (c : Int) = [((240 : Int) + c / 262144).toNat.toUInt8, ((128 : Int) + c / 4096 % 64).toNat.toUInt8, ((128 : Int) + c / 64 % 64).toNat.toUInt8, ((128 : Int) + c % 64).toNat.toUInt8] := by unfold Lib.encodeRune; rw [Lib.encodeRuneZ_four (by omega) (by omega)]; rfl
  rw [e]
  rw [show ((240 : Int) + c / 262144).toNat = 0xF0 + c / 262144 by omega, show ((128 : Int) + c / 4096 % 64).toNat = 0x80 + c / 4096 % 64 by omega, show ((128 : Int) + c / 64 % 64).toNat = 0x80 + c / 64 % 64 by omega, show ((128 : Int) + c % 64).toNat = 0x80 + c % 64 by omega]
  rfl
theorem Scal.le {r : Nat} (h : Scal r) : r ≤ 1114111 := by unfold Scal at h; omega
theorem conv_enc {r : Nat} (h : Scal r) : Utf8.encode (r : Int) = strOf (enc [r]) := by rw [encode_eq h, enc_one]
theorem fold_any {r : Nat} (hs : Scal r) {w : World} (hV : VS w) : Calls Tryd.prog 19 #[.int .i32 (r : Nat)] w fun e w' => e = .returned (.string (strOf (enc (foldR r)))) ∧ Kept No w w' := by
  have hr := hs.le
  by_cases h1 : 65 ≤ r ∧ r ≤ 90
  · have HR := Lib.hid (show foldR r = [r + 32] by unfold foldR; rw [if_pos h1])
    have w1 : IntKind.i32.wrap ((r : Int) + 97) = (r : Int) + 97 := by rw [IntKind.wrap_i32]; omega
    have w2 : IntKind.i32.wrap ((r : Int) + 97 - 65) = ((r + 32 : Nat) : Int) := by rw [IntKind.wrap_i32]; omega
    have HC := Lib.hid (conv_enc (r := r + 32) (by unfold Scal; omega))
    have t0 : decide (65 ≤ r) = true := decide_eq_true (by omega)
    have u0 : decide ((65 : Int) ≤ (r : Int)) = true := decide_eq_true (by omega)
    have t1 : decide (r ≤ 90) = true := decide_eq_true (by omega)
    have u1 : decide ((r : Int) ≤ 90) = true := decide_eq_true (by omega)
    clear h1 hs hr hV
    go_enter Tryd.func19, Tryd.ntmps19
    go_wp2_with fail
    go_ret
    exact ⟨by rw [HR.out, ← HC.out]; rfl, Kept.refl No w⟩
  by_cases h2 : 192 ≤ r ∧ r ≤ 223
  · have HR := Lib.hid (show foldR r = wordsR.getD (r - 192) [] by unfold foldR; rw [if_neg h1, if_pos h2])
    obtain ⟨b, off, cap, c0, hS⟩ := hV.folds
    obtain ⟨j, hj⟩ : ∃ j, r - 192 = j := ⟨_, rfl⟩
    have hj32 : j < 32 := by omega
    have c1 := hS j hj32
    have w1 : IntKind.i32.wrap ((r : Int) - 192) = (j : Int) := by rw [IntKind.wrap_i32]; omega
    rw [hj] at HR
    have hj0 : (0 : Int) ≤ (j : Int) := by omega
    have hj3 : (j : Int) < 32 := by omega
    obtain ⟨S, hSS⟩ : ∃ S, strOf (enc (wordsR.getD j [])) = S := ⟨_, rfl⟩
    rw [hSS] at c1
    have HS := Lib.hid hSS
    have t0 : decide (65 ≤ r) = true := decide_eq_true (by omega)
    have u0 : decide ((65 : Int) ≤ (r : Int)) = true := decide_eq_true (by omega)
    have t1 : decide (r ≤ 90) = false := decide_eq_false (by omega)
    have u1 : decide ((r : Int) ≤ 90) = false := decide_eq_false (by omega)
    have t2 : decide (192 ≤ r) = true := decide_eq_true (by omega)
    have u2 : decide ((192 : Int) ≤ (r : Int)) = true := decide_eq_true (by omega)
    have t3 : decide (r ≤ 223) = true := decide_eq_true (by omega)
    have u3 : decide ((r : Int) ≤ 223) = true := decide_eq_true (by omega)
    clear hS hV hs hr hj hSS h1 h2
    go_enter Tryd.func19, Tryd.ntmps19
    go_wp2_with fail
    go_ret
    exact ⟨by rw [HR.out, HS.out]; rfl, Kept.refl No w⟩
  by_cases h3 : r = 247
  · subst h3
    clear hs hr hV h1 h2
    go_enter Tryd.func19, Tryd.ntmps19
    go_wp2_with fail
    go_ret
    exact ⟨rfl, Kept.refl No w⟩
  by_cases h4 : r = 255
  · subst h4
    clear hs hr hV h1 h2 h3
    go_enter Tryd.func19, Tryd.ntmps19
    go_wp2_with fail
    go_ret
    exact ⟨rfl, Kept.refl No w⟩
  by_cases h5 : 224 ≤ r ∧ r < 255
  · have HR := Lib.hid (show foldR r = wordsR.getD (r - 224) [] by unfold foldR; rw [if_neg h1, if_neg h2, if_neg h3, if_neg h4, if_pos h5])
    obtain ⟨b, off, cap, c0, hS⟩ := hV.folds
    obtain ⟨j, hj⟩ : ∃ j, r - 224 = j := ⟨_, rfl⟩
    have hj32 : j < 32 := by omega
    have c1 := hS j hj32
    have w1 : IntKind.i32.wrap ((r : Int) - 224) = (j : Int) := by rw [IntKind.wrap_i32]; omega
    rw [hj] at HR
    have hj0 : (0 : Int) ≤ (j : Int) := by omega
    have hj3 : (j : Int) < 32 := by omega
    obtain ⟨S, hSS⟩ : ∃ S, strOf (enc (wordsR.getD j [])) = S := ⟨_, rfl⟩
    rw [hSS] at c1
    have HS := Lib.hid hSS
    have t0 : decide (65 ≤ r) = true := decide_eq_true (by omega)
    have u0 : decide ((65 : Int) ≤ (r : Int)) = true := decide_eq_true (by omega)
    have t1 : decide (r ≤ 90) = false := decide_eq_false (by omega)
    have u1 : decide ((r : Int) ≤ 90) = false := decide_eq_false (by omega)
    have t2 : decide (192 ≤ r) = true := decide_eq_true (by omega)
    have u2 : decide ((192 : Int) ≤ (r : Int)) = true := decide_eq_true (by omega)
    have t3 : decide (r ≤ 223) = false := decide_eq_false (by omega)
    have u3 : decide ((r : Int) ≤ 223) = false := decide_eq_false (by omega)
    have u4 : ((r : Int) == 247) = false := by simp; omega
    have u5 : ((r : Int) == 255) = false := by simp; omega
    have t6 : decide (224 ≤ r) = true := decide_eq_true (by omega)
    have u6 : decide ((224 : Int) ≤ (r : Int)) = true := decide_eq_true (by omega)
    have t7 : decide (r < 255) = true := decide_eq_true (by omega)
    have u7 : decide ((r : Int) < 255) = true := decide_eq_true (by omega)
    clear hS hV hs hr hj hSS h1 h2 h3 h4 h5
    go_enter Tryd.func19, Tryd.ntmps19
    go_wp2_with fail
    go_ret
    exact ⟨by rw [HR.out, HS.out]; rfl, Kept.refl No w⟩
  obtain ⟨b, off, cap, c0, hcap, hS⟩ := hV.letters
  have HI := Lib.hid (show Calls Tryd.prog 34 #[.int .i32 (r : Nat), .slice (some ⟨b, off + 10, none⟩) 2 (cap - 5)] w fun e w' => e = .returned (.bool (inL r greekL)) ∧ Kept No w w' from in_any hr (L := greekL) (by decide) (fun i p hp => by
    have hi : i < 2 := (List.getElem?_eq_some_iff.1 hp).1
    have h := hS (5 + i) p (by rw [← hp]; obtain rfl | rfl : i = 0 ∨ i = 1 := by omega
                               · rfl
                               · rfl)
    rw [show off + 10 + i * 2 = off + (5 + i) * 2 by omega]
    exact h))
  have HR := Lib.hid (show foldR r = if inL r greekL = true then [r + 32] else [r] by unfold foldR; rw [if_neg h1, if_neg h2, if_neg h3, if_neg h4, if_neg h5])
  have w1 : inL r greekL = true → IntKind.i32.wrap ((r : Int) + 32) = ((r + 32 : Nat) : Int) := fun _ => by rw [IntKind.wrap_i32]; omega
  have HC := Lib.hid (conv_enc hs)
  have HC2 := Lib.hid (fun h : inL r greekL = true => conv_enc (r := r + 32) (by
    simp [inL, greekL] at h
    unfold Scal
    omega))
  have hc0 : (0 : Int) ≤ (cap : Int) := by omega
  have hc7 : (7 : Int) ≤ (cap : Int) := by omega
  obtain ⟨v, hv⟩ : ∃ v, inL r greekL = v := ⟨_, rfl⟩
  rw [hv] at HI HR HC2 w1
  by_cases h6 : r < 65
  · -- the tests of a small rune
    have t0 : decide (65 ≤ r) = false := decide_eq_false (by omega)
    have u0 : decide ((65 : Int) ≤ (r : Int)) = false := decide_eq_false (by omega)
    have t2 : decide (192 ≤ r) = false := decide_eq_false (by omega)
    have u2 : decide ((192 : Int) ≤ (r : Int)) = false := decide_eq_false (by omega)
    have u4 : ((r : Int) == 247) = false := by simp; omega
    have u5 : ((r : Int) == 255) = false := by simp; omega
    have t6 : decide (224 ≤ r) = false := decide_eq_false (by omega)
    have u6 : decide ((224 : Int) ≤ (r : Int)) = false := decide_eq_false (by omega)
    clear hS hV hs hr h1 h2 h3 h4 h5 h6 hv
    cases v
    · go_enter Tryd.func19, Tryd.ntmps19
      go_wp2_with fail
      refine HI.out.mono ?_
      rintro e w2 ⟨rfl, hk⟩
      have HK := Lib.hid hk
      clear hk
      go_wp2_with fail
      go_ret
      exact ⟨by rw [HR.out]; simp only [Bool.false_eq_true, if_false]; rw [← HC.out]; rfl, HK.out⟩
    · have w2 := w1 rfl
      have HC3 := Lib.hid (HC2.out rfl)
      clear HC2
      go_enter Tryd.func19, Tryd.ntmps19
      go_wp2_with fail
      refine HI.out.mono ?_
      rintro e w2 ⟨rfl, hk⟩
      have HK := Lib.hid hk
      clear hk
      go_wp2_with fail
      go_ret
      exact ⟨by rw [HR.out]; simp only [if_true]; rw [← HC3.out]; rfl, HK.out⟩
  by_cases h7 : r < 192
  · have h67 : 90 < r := by omega
    have t0 : decide (65 ≤ r) = true := decide_eq_true (by omega)
    have u0 : decide ((65 : Int) ≤ (r : Int)) = true := decide_eq_true (by omega)
    have t1 : decide (r ≤ 90) = false := decide_eq_false (by omega)
    have u1 : decide ((r : Int) ≤ 90) = false := decide_eq_false (by omega)
    have t2 : decide (192 ≤ r) = false := decide_eq_false (by omega)
    have u2 : decide ((192 : Int) ≤ (r : Int)) = false := decide_eq_false (by omega)
    have u4 : ((r : Int) == 247) = false := by simp; omega
    have u5 : ((r : Int) == 255) = false := by simp; omega
    have t6 : decide (224 ≤ r) = false := decide_eq_false (by omega)
    have u6 : decide ((224 : Int) ≤ (r : Int)) = false := decide_eq_false (by omega)
    clear hS hV hs hr h1 h2 h3 h4 h5 h6 h7 h67 hv
    cases v
    · go_enter Tryd.func19, Tryd.ntmps19
      go_wp2_with fail
      refine HI.out.mono ?_
      rintro e w2 ⟨rfl, hk⟩
      have HK := Lib.hid hk
      clear hk
      go_wp2_with fail
      go_ret
      exact ⟨by rw [HR.out]; simp only [Bool.false_eq_true, if_false]; rw [← HC.out]; rfl, HK.out⟩
    · have w2 := w1 rfl
      have HC3 := Lib.hid (HC2.out rfl)
      clear HC2
      go_enter Tryd.func19, Tryd.ntmps19
      go_wp2_with fail
      refine HI.out.mono ?_
      rintro e w2 ⟨rfl, hk⟩
      have HK := Lib.hid hk
      clear hk
      go_wp2_with fail
      go_ret
      exact ⟨by rw [HR.out]; simp only [if_true]; rw [← HC3.out]; rfl, HK.out⟩
  · have h67 : 255 < r := by omega
    have t0 : decide (65 ≤ r) = true := decide_eq_true (by omega)
    have u0 : decide ((65 : Int) ≤ (r : Int)) = true := decide_eq_true (by omega)
    have t1 : decide (r ≤ 90) = false := decide_eq_false (by omega)
    have u1 : decide ((r : Int) ≤ 90) = false := decide_eq_false (by omega)
    have t2 : decide (192 ≤ r) = true := decide_eq_true (by omega)
    have u2 : decide ((192 : Int) ≤ (r : Int)) = true := decide_eq_true (by omega)
    have t3 : decide (r ≤ 223) = false := decide_eq_false (by omega)
    have u3 : decide ((r : Int) ≤ 223) = false := decide_eq_false (by omega)
    have u4 : ((r : Int) == 247) = false := by simp; omega
    have u5 : ((r : Int) == 255) = false := by simp; omega
    have t6 : decide (224 ≤ r) = true := decide_eq_true (by omega)
    have u6 : decide ((224 : Int) ≤ (r : Int)) = true := decide_eq_true (by omega)
    have t7 : decide (r < 255) = false := decide_eq_false (by omega)
    have u7 : decide ((r : Int) < 255) = false := decide_eq_false (by omega)
    clear hS hV hs hr h1 h2 h3 h4 h5 h6 h7 h67 hv
    cases v
    · go_enter Tryd.func19, Tryd.ntmps19
      go_wp2_with fail
      refine HI.out.mono ?_
      rintro e w2 ⟨rfl, hk⟩
      have HK := Lib.hid hk
      clear hk
      go_wp2_with fail
      go_ret
      exact ⟨by rw [HR.out]; simp only [Bool.false_eq_true, if_false]; rw [← HC.out]; rfl, HK.out⟩
    · have w2 := w1 rfl
      have HC3 := Lib.hid (HC2.out rfl)
      clear HC2
      go_enter Tryd.func19, Tryd.ntmps19
      go_wp2_with fail
      refine HI.out.mono ?_
      rintro e w2 ⟨rfl, hk⟩
      have HK := Lib.hid hk
      clear hk
      go_wp2_with fail
      go_ret
      exact ⟨by rw [HR.out]; simp only [if_true]; rw [← HC3.out]; rfl, HK.out⟩
end Go.Proofs.YtoahnfmbmpllaaaDoor
