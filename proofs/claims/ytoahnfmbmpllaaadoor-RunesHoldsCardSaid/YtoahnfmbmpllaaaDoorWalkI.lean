/-
  Runes: the examples of the chapter.
-/
import Derived.Test.YtoahnfmbmpllaaaDoorWalkH
set_option linter.unusedVariables false
set_option linter.unusedSimpArgs false
namespace Go.Proofs.YtoahnfmbmpllaaaDoor
open Go.RowKit Go.Zn
attribute [local go_sem] Oper.semAt_some

theorem fits_true {s S : ByteArray} {k z : Int} {w : World} (HF : Calls Tryd.prog 14 #[.string s, .int .i64 k] w fun e w' => e = .returned (.tuple #[.string S, .int .i64 z]) ∧ Kept No w w') : Calls Tryd.prog 8 #[.string s, .int .i64 k, .string S, .int .i64 z] w fun e w' => e = .returned (.bool true) ∧ Kept No w w' := by
  have H := Lib.hid HF
  have e1 : (S.toList == S.toList) = true := by simp
  clear HF
  go_enter Tryd.func8, Tryd.ntmps8
  go_wp2_with fail
  refine H.out.mono ?_
  rintro e w1 ⟨rfl, hk⟩
  have HK := Lib.hid hk
  clear hk
  go_wp2_with fail
  go_ret
  exact ⟨rfl, HK.out⟩
theorem keys_true {s S : ByteArray} {z : Int} {w : World} (HF : Calls Tryd.prog 33 #[.string s] w fun e w' => e = .returned (.tuple #[.string S, .int .i64 z]) ∧ Kept No w w') : Calls Tryd.prog 15 #[.string s, .string S, .int .i64 z] w fun e w' => e = .returned (.bool true) ∧ Kept No w w' := by
  have H := Lib.hid HF
  have e1 : (S.toList == S.toList) = true := by simp
  clear HF
  go_enter Tryd.func15, Tryd.ntmps15
  go_wp2_with fail
  refine H.out.mono ?_
  rintro e w1 ⟨rfl, hk⟩
  have HK := Lib.hid hk
  clear hk
  go_wp2_with fail
  go_ret
  exact ⟨rfl, HK.out⟩
def fireL : Nat → List UInt8
  | 0 => []
  | n + 1 => fireL n ++ [231, 129, 171]
theorem fireL_len : ∀ n, (fireL n).length = 3 * n
  | 0 => rfl
  | n + 1 => by rw [fireL, List.length_append, fireL_len n]; simp; omega
theorem v1 : validV [195, 132, 108, 112, 108, 101, 114, 32, 195, 152, 120] = true := by decide +kernel
theorem v2 : validV [79, 108, 100, 32, 32, 79, 97, 107] = false := by decide +kernel
theorem v3 : validV [46] = true := by decide +kernel
theorem v6 : validV [195, 137, 255] = false := by decide +kernel
theorem v4 : validV (fireL 24) = true := by decide +kernel
theorem v5 : validV (fireL 25) = false := by decide +kernel
theorem f1 : foldS [195, 132, 108, 112, 108, 101, 114, 32, 195, 134, 88] = [97, 108, 112, 108, 101, 114, 32, 97, 101, 120] := by decide +kernel
theorem f2 : foldS [206, 163, 206, 169] = [207, 131, 207, 137] := by decide +kernel
theorem k1v : validV [83, 116, 46, 32, 74, 111, 45, 65, 110, 110, 39, 115] = true := by decide +kernel
theorem k1k : keyS [83, 116, 46, 32, 74, 111, 45, 65, 110, 110, 39, 115] = [115, 116, 106, 111, 97, 110, 110, 115] := by decide +kernel
theorem k2v : validV [97, 33] = false := by decide +kernel
theorem s1 : startsS [83, 116, 46, 32, 74, 111, 45, 65, 110, 110, 39, 115] [115, 116, 106, 111] = true := by decide +kernel
theorem s2 : startsS [79, 97, 107] [111, 97, 107, 115] = false := by decide +kernel
theorem w1f : widthS [231, 129, 171, 65] = 3 := by decide +kernel
theorem t1 : fitS [231, 129, 171, 65] 5 = [231, 129, 171, 65, 32, 32] := by decide +kernel
theorem t2 : fitS [231, 129, 171, 231, 129, 171, 65] 4 = [231, 129, 171, 226, 128, 166, 32] := by decide +kernel
theorem t3 : fitS [79, 97, 107] 2 = [79, 226, 128, 166] := by decide +kernel
theorem t4 : fitS [79, 97, 107] 0 = [] := by decide +kernel
theorem c1 : cmpS [195, 132, 112, 102, 101, 108] [97, 112, 102, 101, 108] = 1 := by decide +kernel
theorem c2 : cmpS [79, 97, 107] [79, 97, 107, 115] = -1 := by decide +kernel
theorem c3 : cmpS [98] [195, 132] = 1 := by decide +kernel
theorem c4 : cmpS [120] [120] = 0 := by decide +kernel
theorem v1c {w : World} (hV : VS w) : Calls Tryd.prog 13 #[.string { data := #[195, 132, 108, 112, 108, 101, 114, 32, 195, 152, 120] }] w fun e w' => e = .returned (.bool true) ∧ Kept No w w' := v1 ▸ valid_any (l := [195, 132, 108, 112, 108, 101, 114, 32, 195, 152, 120]) (by decide) hV
theorem v2c {w : World} (hV : VS w) : Calls Tryd.prog 13 #[.string { data := #[79, 108, 100, 32, 32, 79, 97, 107] }] w fun e w' => e = .returned (.bool false) ∧ Kept No w w' := v2 ▸ valid_any (l := [79, 108, 100, 32, 32, 79, 97, 107]) (by decide) hV
theorem v3c {w : World} (hV : VS w) : Calls Tryd.prog 13 #[.string { data := #[46] }] w fun e w' => e = .returned (.bool true) ∧ Kept No w w' := v3 ▸ valid_any (l := [46]) (by decide) hV
theorem v6c {w : World} (hV : VS w) : Calls Tryd.prog 13 #[.string { data := #[195, 137, 255] }] w fun e w' => e = .returned (.bool false) ∧ Kept No w w' := v6 ▸ valid_any (l := [195, 137, 255]) (by decide) hV
theorem v4c {w : World} (hV : VS w) : Calls Tryd.prog 13 #[.string (strOf (fireL 24))] w fun e w' => e = .returned (.bool true) ∧ Kept No w w' := v4 ▸ valid_any (l := fireL 24) (by rw [fireL_len]; decide) hV
theorem v5c {w : World} (hV : VS w) : Calls Tryd.prog 13 #[.string (strOf (fireL 25))] w fun e w' => e = .returned (.bool false) ∧ Kept No w w' := v5 ▸ valid_any (l := fireL 25) (by rw [fireL_len]; decide) hV
theorem f1c {w : World} (hV : VS w) : Calls Tryd.prog 10 #[.string { data := #[195, 132, 108, 112, 108, 101, 114, 32, 195, 134, 88] }] w fun e w' => e = .returned (.string { data := #[97, 108, 112, 108, 101, 114, 32, 97, 101, 120] }) ∧ Kept No w w' := by
  have h := foldS_any (l := [195, 132, 108, 112, 108, 101, 114, 32, 195, 134, 88]) (by decide) hV
  rw [f1] at h
  exact h
theorem f2c {w : World} (hV : VS w) : Calls Tryd.prog 10 #[.string { data := #[206, 163, 206, 169] }] w fun e w' => e = .returned (.string { data := #[207, 131, 207, 137] }) ∧ Kept No w w' := by
  have h := foldS_any (l := [206, 163, 206, 169]) (by decide) hV
  rw [f2] at h
  exact h
theorem k1c {w : World} (hV : VS w) : Calls Tryd.prog 15 #[.string { data := #[83, 116, 46, 32, 74, 111, 45, 65, 110, 110, 39, 115] }, .string { data := #[115, 116, 106, 111, 97, 110, 110, 115] }, .int .i64 0] w fun e w' => e = .returned (.bool true) ∧ Kept No w w' := by
  refine keys_true ?_
  have h := keyOf_any (l := [83, 116, 46, 32, 74, 111, 45, 65, 110, 110, 39, 115]) (by decide) hV
  rw [k1v, if_pos rfl, if_pos rfl, k1k] at h
  exact h
theorem k2c {w : World} (hV : VS w) : Calls Tryd.prog 15 #[.string { data := #[97, 33] }, .string { data := #[] }, .int .i64 2] w fun e w' => e = .returned (.bool true) ∧ Kept No w w' := by
  refine keys_true ?_
  have h := keyOf_any (l := [97, 33]) (by decide) hV
  rw [k2v, if_neg (by decide), if_neg (by decide)] at h
  exact h
theorem s1c {w : World} (hV : VS w) : Calls Tryd.prog 12 #[.string { data := #[83, 116, 46, 32, 74, 111, 45, 65, 110, 110, 39, 115] }, .string { data := #[115, 116, 106, 111] }] w fun e w' => e = .returned (.bool true) ∧ Kept No w w' := s1 ▸ starts_any (a := [83, 116, 46, 32, 74, 111, 45, 65, 110, 110, 39, 115]) (b := [115, 116, 106, 111]) (by decide) (by decide) hV
theorem s2c {w : World} (hV : VS w) : Calls Tryd.prog 12 #[.string { data := #[79, 97, 107] }, .string { data := #[111, 97, 107, 115] }] w fun e w' => e = .returned (.bool false) ∧ Kept No w w' := s2 ▸ starts_any (a := [79, 97, 107]) (b := [111, 97, 107, 115]) (by decide) (by decide) hV
theorem w1c {w : World} (hV : VS w) : Calls Tryd.prog 6 #[.string { data := #[231, 129, 171, 65] }] w fun e w' => e = .returned (.int .i64 3) ∧ Kept No w w' := by
  have h := width_any (l := [231, 129, 171, 65]) (by decide) hV
  rw [w1f] at h
  exact h
theorem t1c {w : World} (hV : VS w) : Calls Tryd.prog 8 #[.string { data := #[231, 129, 171, 65] }, .int .i64 5, .string { data := #[231, 129, 171, 65, 32, 32] }, .int .i64 0] w fun e w' => e = .returned (.bool true) ∧ Kept No w w' := by
  refine fits_true ?_
  have h := fit_any (l := [231, 129, 171, 65]) (by decide) (k := 5) (by decide) hV
  rw [t1] at h
  exact h
theorem t2c {w : World} (hV : VS w) : Calls Tryd.prog 8 #[.string { data := #[231, 129, 171, 231, 129, 171, 65] }, .int .i64 4, .string { data := #[231, 129, 171, 226, 128, 166, 32] }, .int .i64 0] w fun e w' => e = .returned (.bool true) ∧ Kept No w w' := by
  refine fits_true ?_
  have h := fit_any (l := [231, 129, 171, 231, 129, 171, 65]) (by decide) (k := 4) (by decide) hV
  rw [t2] at h
  exact h
theorem t3c {w : World} (hV : VS w) : Calls Tryd.prog 8 #[.string { data := #[79, 97, 107] }, .int .i64 2, .string { data := #[79, 226, 128, 166] }, .int .i64 0] w fun e w' => e = .returned (.bool true) ∧ Kept No w w' := by
  refine fits_true ?_
  have h := fit_any (l := [79, 97, 107]) (by decide) (k := 2) (by decide) hV
  rw [t3] at h
  exact h
theorem t4c {w : World} (hV : VS w) : Calls Tryd.prog 8 #[.string { data := #[79, 97, 107] }, .int .i64 0, .string { data := #[] }, .int .i64 0] w fun e w' => e = .returned (.bool true) ∧ Kept No w w' := by
  refine fits_true ?_
  have h := fit_any (l := [79, 97, 107]) (by decide) (k := 0) (by decide) hV
  rw [t4] at h
  exact h
theorem t5c (w : World) : Calls Tryd.prog 8 #[.string { data := #[79, 97, 107] }, .int .i64 201, .string { data := #[] }, .int .i64 2] w fun e w' => e = .returned (.bool true) ∧ Kept No w w' :=
  fits_true ((fit_bad (.inr (by decide)) _ w).mono fun e w' ⟨he, hw⟩ => ⟨he, hw ▸ Kept.refl No w⟩)
theorem c1c {w : World} (hV : VS w) : Calls Tryd.prog 11 #[.string { data := #[195, 132, 112, 102, 101, 108] }, .string { data := #[97, 112, 102, 101, 108] }] w fun e w' => e = .returned (.int .i64 (1)) ∧ Kept No w w' := by
  have h := compare_any (a := [195, 132, 112, 102, 101, 108]) (b := [97, 112, 102, 101, 108]) (by decide) (by decide) hV
  rw [c1] at h
  exact h
theorem c2c {w : World} (hV : VS w) : Calls Tryd.prog 11 #[.string { data := #[79, 97, 107] }, .string { data := #[79, 97, 107, 115] }] w fun e w' => e = .returned (.int .i64 (-1)) ∧ Kept No w w' := by
  have h := compare_any (a := [79, 97, 107]) (b := [79, 97, 107, 115]) (by decide) (by decide) hV
  rw [c2] at h
  exact h
theorem c3c {w : World} (hV : VS w) : Calls Tryd.prog 11 #[.string { data := #[98] }, .string { data := #[195, 132] }] w fun e w' => e = .returned (.int .i64 (1)) ∧ Kept No w w' := by
  have h := compare_any (a := [98]) (b := [195, 132]) (by decide) (by decide) hV
  rw [c3] at h
  exact h
theorem c4c {w : World} (hV : VS w) : Calls Tryd.prog 11 #[.string { data := #[120] }, .string { data := #[120] }] w fun e w' => e = .returned (.int .i64 (0)) ∧ Kept No w w' := by
  have h := compare_any (a := [120]) (b := [120]) (by decide) (by decide) hV
  rw [c4] at h
  exact h
def KnRel (w0 : World) (sv iv : Value) (wr : World) : Prop := ∃ i : Nat, sv = .string (strOf (fireL i)) ∧ iv = .int .i64 (i : Nat) ∧ i ≤ 24 ∧ wr = w0
theorem kn_start (w : World) : KnRel w (.string { data := #[] }) (.int .i64 0) w := ⟨0, rfl, rfl, by decide, rfl⟩
set_option maxHeartbeats 8000000 in
theorem known_any {w : World} (hV : VS w) : Calls Tryd.prog 5 #[] w fun e w' => e = .returned (.bool true) ∧ Kept No w w' := by
  have HV := Lib.hid hV
  have HK := Lib.hid (Kept.refl No w)
  clear hV
  go_enter Tryd.func5, Tryd.ntmps5
  go_wp2_with fail
  go_loopw [1, 2] (fun sv iv wr => KnRel w sv iv wr) (fun _ iv _ => 24 - (intOf iv).toNat)
  case atStart => exact kn_start w
  case round =>
    obtain ⟨i, rfl, rfl, hi, rfl⟩ := hrel
    have hsz : (strOf (fireL i)).size = 3 * i := by rw [strOf_size, fireL_len]
    have hadd : strOf (fireL i) ++ { data := #[231, 129, 171] } = strOf (fireL (i + 1)) := strOf_app (fireL i) [231, 129, 171]
    by_cases hlt : i < 24
    · have d1 : decide (i < 24) = true := decide_eq_true hlt
      have d1' : decide ((i : Int) < 24) = true := decide_eq_true (by omega)
      have q4 : IntKind.i64.wrap ((i : Int) + 1) = (i : Int) + 1 := IntWalk.i64_in _ (by omega)
      have HR := Lib.hid (show KnRel wr (.string (strOf (fireL i) ++ { data := #[231, 129, 171] })) (.int .i64 ((i : Int) + 1)) wr from ⟨i + 1, by rw [hadd], by go_num, by omega, rfl⟩)
      have HI := Lib.hid hlt
      clear hadd hlt
      go_wp2_with fail
      have hI := HI.out
      exact ⟨HR.out, by simp [intOf]; omega⟩
    · obtain rfl : i = 24 := by omega
      have d1 : decide (24 < 24) = false := by decide
      have HV5 := Lib.hid (fun (w : World) (h : VS w) => (show Calls Tryd.prog 13 #[.string (strOf (fireL 24) ++ { data := #[231, 129, 171] })] w fun e w' => e = .returned (.bool false) ∧ Kept No w w' by rw [hadd]; exact v5c h))
      clear hlt hi hadd
      go_wp2_with fail
      refine (v1c HV.out).mono ?_
      rintro e w11 ⟨rfl, hk⟩
      have HV := Lib.hid (HV.out.no hk)
      have HK := Lib.hid (HK.out.and hk)
      clear hk
      go_wp2_with fail
      refine (v2c HV.out).mono ?_
      rintro e w12 ⟨rfl, hk⟩
      have HV := Lib.hid (HV.out.no hk)
      have HK := Lib.hid (HK.out.and hk)
      clear hk
      go_wp2_with fail
      refine (v3c HV.out).mono ?_
      rintro e w13 ⟨rfl, hk⟩
      have HV := Lib.hid (HV.out.no hk)
      have HK := Lib.hid (HK.out.and hk)
      clear hk
      go_wp2_with fail
      refine (v4c HV.out).mono ?_
      rintro e w14 ⟨rfl, hk⟩
      have HV := Lib.hid (HV.out.no hk)
      have HK := Lib.hid (HK.out.and hk)
      clear hk
      go_wp2_with fail
      -- one fire more
      refine (HV5.out _ HV.out).mono ?_
      rintro e w15 ⟨rfl, hk⟩
      have HV := Lib.hid (HV.out.no hk)
      have HK := Lib.hid (HK.out.and hk)
      clear hk
      go_wp2_with fail
      refine (v6c HV.out).mono ?_
      rintro e w16 ⟨rfl, hk⟩
      have HV := Lib.hid (HV.out.no hk)
      have HK := Lib.hid (HK.out.and hk)
      clear hk
      go_wp2_with fail
      refine (f1c HV.out).mono ?_
      rintro e w17 ⟨rfl, hk⟩
      have HV := Lib.hid (HV.out.no hk)
      have HK := Lib.hid (HK.out.and hk)
      clear hk
      go_wp2_with fail
      refine (f2c HV.out).mono ?_
      rintro e w18 ⟨rfl, hk⟩
      have HV := Lib.hid (HV.out.no hk)
      have HK := Lib.hid (HK.out.and hk)
      clear hk
      go_wp2_with fail
      refine (k1c HV.out).mono ?_
      rintro e w19 ⟨rfl, hk⟩
      have HV := Lib.hid (HV.out.no hk)
      have HK := Lib.hid (HK.out.and hk)
      clear hk
      go_wp2_with fail
      refine (k2c HV.out).mono ?_
      rintro e w20 ⟨rfl, hk⟩
      have HV := Lib.hid (HV.out.no hk)
      have HK := Lib.hid (HK.out.and hk)
      clear hk
      go_wp2_with fail
      refine (s1c HV.out).mono ?_
      rintro e w21 ⟨rfl, hk⟩
      have HV := Lib.hid (HV.out.no hk)
      have HK := Lib.hid (HK.out.and hk)
      clear hk
      go_wp2_with fail
      refine (s2c HV.out).mono ?_
      rintro e w22 ⟨rfl, hk⟩
      have HV := Lib.hid (HV.out.no hk)
      have HK := Lib.hid (HK.out.and hk)
      clear hk
      go_wp2_with fail
      refine (w1c HV.out).mono ?_
      rintro e w23 ⟨rfl, hk⟩
      have HV := Lib.hid (HV.out.no hk)
      have HK := Lib.hid (HK.out.and hk)
      clear hk
      go_wp2_with fail
      refine (t1c HV.out).mono ?_
      rintro e w24 ⟨rfl, hk⟩
      have HV := Lib.hid (HV.out.no hk)
      have HK := Lib.hid (HK.out.and hk)
      clear hk
      go_wp2_with fail
      refine (t2c HV.out).mono ?_
      rintro e w25 ⟨rfl, hk⟩
      have HV := Lib.hid (HV.out.no hk)
      have HK := Lib.hid (HK.out.and hk)
      clear hk
      go_wp2_with fail
      refine (t3c HV.out).mono ?_
      rintro e w26 ⟨rfl, hk⟩
      have HV := Lib.hid (HV.out.no hk)
      have HK := Lib.hid (HK.out.and hk)
      clear hk
      go_wp2_with fail
      refine (t4c HV.out).mono ?_
      rintro e w27 ⟨rfl, hk⟩
      have HV := Lib.hid (HV.out.no hk)
      have HK := Lib.hid (HK.out.and hk)
      clear hk
      go_wp2_with fail
      refine (t5c _).mono ?_
      rintro e w28 ⟨rfl, hk⟩
      have HV := Lib.hid (HV.out.no hk)
      have HK := Lib.hid (HK.out.and hk)
      clear hk
      go_wp2_with fail
      refine (c1c HV.out).mono ?_
      rintro e w29 ⟨rfl, hk⟩
      have HV := Lib.hid (HV.out.no hk)
      have HK := Lib.hid (HK.out.and hk)
      clear hk
      go_wp2_with fail
      refine (c2c HV.out).mono ?_
      rintro e w30 ⟨rfl, hk⟩
      have HV := Lib.hid (HV.out.no hk)
      have HK := Lib.hid (HK.out.and hk)
      clear hk
      go_wp2_with fail
      refine (c3c HV.out).mono ?_
      rintro e w31 ⟨rfl, hk⟩
      have HV := Lib.hid (HV.out.no hk)
      have HK := Lib.hid (HK.out.and hk)
      clear hk
      go_wp2_with fail
      refine (c4c HV.out).mono ?_
      rintro e w32 ⟨rfl, hk⟩
      have HV := Lib.hid (HV.out.no hk)
      have HK := Lib.hid (HK.out.and hk)
      clear hk
      go_wp2_with fail
      go_ret
      exact ⟨rfl, HK.out⟩
end Go.Proofs.YtoahnfmbmpllaaaDoor
