/-
  Runes: Fit.
-/
import Derived.Test.YtoahnfmbmpllaaaDoorWalkD
set_option linter.unusedVariables false
set_option linter.unusedSimpArgs false
namespace Go.Proofs.YtoahnfmbmpllaaaDoor
open Go.RowKit Go.Zn
attribute [local go_sem] Oper.semAt_some

theorem kept_of_below {w w' : World} (h : Below w.heap.size w w') : Kept No w w' := Kept.of_below h
theorem rep_spaces : ∀ n, Lib.repeatL [32] n = enc (List.replicate n 32)
  | 0 => rfl
  | n + 1 => by
    rw [List.replicate_succ, enc_cons, ← rep_spaces n]
    rfl
theorem repeat_any {n : Nat} (hn : n ≤ 1000) (w : World) : Calls Tryd.prog 32 #[.string ⟨#[32]⟩, .int .i64 (n : Nat)] w fun e w' => e = .returned (.string (strOf (enc (List.replicate n 32)))) ∧ Kept No w w' := by
  refine (Tryd.strings_Repeat ⟨#[32]⟩ n w (by omega) ?_).mono fun e w' ⟨he, hk⟩ => ⟨he.trans ?_, Kept.of_below hk⟩
  · show 1 * n ≤ _
    omega
  · rw [← rep_spaces]
    rfl
theorem spaces_len (n : Nat) : (enc (List.replicate n 32)).length = n := by
  rw [← rep_spaces]
  have : ∀ n, (Lib.repeatL [32] n).length = n := fun n => by
    induction n with
    | zero => rfl
    | succ n ih => show (([32] : List UInt8) ++ Lib.repeatL [32] n).length = n + 1; rw [List.length_append, ih]; simp; omega
  exact this n
theorem fit_bad {k : Int} (hk : k < 0 ∨ 200 < k) (s : ByteArray) (w : World) : Calls Tryd.prog 14 #[.string s, .int .i64 k] w fun e w' => e = .returned (.tuple #[.string ⟨#[]⟩, .int .i64 2]) ∧ w' = w := by
  by_cases h : k < 0
  · have d1 : decide (k < 0) = true := decide_eq_true h
    clear h hk
    go_enter Tryd.func14, Tryd.ntmps14
    go_wp2_with fail
    go_ret2
    exact ⟨rfl, rfl⟩
  · have d1 : decide (k < 0) = false := decide_eq_false h
    have d2 : decide (200 < k) = true := decide_eq_true (by omega)
    clear h hk
    go_enter Tryd.func14, Tryd.ntmps14
    go_wp2_with fail
    go_ret2
    exact ⟨rfl, rfl⟩
set_option maxHeartbeats 4000000 in
theorem fit_any {l : List UInt8} (hl : l.length ≤ 100000) {k : Nat} (hk : k ≤ 200) {w : World} (hV : VS w) : Calls Tryd.prog 14 #[.string (strOf l), .int .i64 (k : Nat)] w fun e w' => e = .returned (.tuple #[.string (strOf (fitS l k)), .int .i64 0]) ∧ Kept No w w' := by
  have d1 : decide ((k : Int) < 0) = false := decide_eq_false (by omega)
  have d2 : decide (200 < (k : Int)) = false := decide_eq_false (by omega)
  have d2' : decide (200 < k) = false := decide_eq_false (by omega)
  have HW := Lib.hid (width_any hl hV)
  have HC := Lib.hid (fun most (hm : most ≤ 200000) w (h : VS w) => cut_any hl hm h)
  have HR := Lib.hid (fun n (hn : n ≤ 1000) w => repeat_any hn w)
  have HV := Lib.hid hV
  have hwl : widthS l ≤ 200000 := by have := widthS_le l; omega
  have hfit : fitS l k = enc (fitR (rns l) k) := rfl
  have hWD : widthS l = colsL (rns l) := rfl
  obtain ⟨W, hW⟩ : ∃ W, widthS l = W := ⟨_, rfl⟩
  rw [hW] at HW hwl hWD
  by_cases hgt : k < W
  · have t1 : decide (k < W) = true := decide_eq_true hgt
    have t1' : decide ((k : Int) < (W : Int)) = true := decide_eq_true (by omega)
    by_cases h0 : k = 0
    · subst h0
      have HF := Lib.hid (show fitS l 0 = [] by rw [hfit]; unfold fitR; rw [← hWD, if_pos hgt]; rfl)
      have t1s : decide ((0 : Int) < (W : Int)) = true := decide_eq_true (by omega)
      clear hgt hfit hWD hW hk hV
      go_enter Tryd.func14, Tryd.ntmps14
      go_wp2_with fail
      refine HW.out.mono ?_
      rintro e w1 ⟨rfl, hk⟩
      have HK := Lib.hid hk
      clear hk
      go_wp2_with fail
      go_ret2
      exact ⟨by rw [HF.out]; rfl, HK.out⟩
    · have t2 : ((k : Int) == 0) = false := by simp; omega
      have q1 : IntKind.i64.wrap ((k : Int) - 1) = ((k - 1 : Nat) : Int) := (IntWalk.i64_in _ (by omega)).trans (by omega)
      have HC2 := Lib.hid (fun w (h : VS w) => HC.out (k - 1) (by omega) w h)
      obtain ⟨M, hM⟩ : ∃ M, cutR (k - 1) 0 (rns l) = M := ⟨_, rfl⟩
      rw [hM] at HC2
      have hMc : colsL M ≤ k - 1 := by rw [← hM]; have := cutR_le (k - 1) (rns l) 0 (by omega); omega
      have hMl : (enc M).length ≤ 400000 := by
        rw [← hM]
        have := enc_bound (cutR (k - 1) 0 (rns l))
        have := cutR_len_le (k - 1) (rns l) 0
        have := rns_len l
        omega
      have hF : fitS l k = enc M ++ [226, 128, 166] ++ enc (List.replicate (k - (colsL M + 1)) 32) := by
        rw [hfit]
        unfold fitR
        rw [← hWD, if_pos hgt, if_neg h0, hM, enc_app, enc_app]
        rfl
      obtain ⟨m, hm⟩ : ∃ m, colsL M = m := ⟨_, rfl⟩
      rw [hm] at HC2 hMc hF
      have q2 : IntKind.i64.wrap ((m : Int) + 1) = (m : Int) + 1 := IntWalk.i64_in _ (by omega)
      have q3 : IntKind.i64.wrap ((k : Int) - ((m : Int) + 1)) = ((k - (m + 1) : Nat) : Int) := (IntWalk.i64_in _ (by omega)).trans (by omega)
      have HR2 := Lib.hid (fun w => HR.out (k - (m + 1)) (by omega) w)
      obtain ⟨n, hn⟩ : ∃ n, k - (m + 1) = n := ⟨_, rfl⟩
      rw [hn] at hF q3 HR2
      have hn200 : n ≤ 200 := by omega
      have hspl := spaces_len n
      obtain ⟨sp, hsp⟩ : ∃ sp, enc (List.replicate n 32) = sp := ⟨_, rfl⟩
      obtain ⟨hd, hhd⟩ : ∃ hd, enc M = hd := ⟨_, rfl⟩
      rw [hsp] at hF HR2 hspl
      rw [hhd] at hF HC2 hMl
      have s1 := strOf_size hd
      have s2 := strOf_size sp
      have s3 := strOf_size (hd ++ [226, 128, 166])
      have ea : strOf hd ++ { data := #[226, 128, 166] } = strOf (hd ++ [226, 128, 166]) := strOf_app hd [226, 128, 166]
      rw [List.length_append] at s3
      have s4 : (strOf hd ++ ({ data := #[226, 128, 166] } : ByteArray)).size = hd.length + 3 := by rw [ea, s3]; rfl
      have HF := Lib.hid (show strOf (fitS l k) = strOf hd ++ { data := #[226, 128, 166] } ++ strOf sp by rw [ea, strOf_app, hF])
      clear hgt hfit hWD hW hk hV h0 hM hF hm hn hsp hhd ea s3
      go_enter Tryd.func14, Tryd.ntmps14
      go_wp2_with fail
      refine HW.out.mono ?_
      rintro e w1 ⟨rfl, hk⟩
      have HK := Lib.hid hk
      clear hk
      go_wp2_with fail
      refine (HC2.out _ (HV.out.no HK.out)).mono ?_
      rintro e w2 ⟨rfl, hk⟩
      have HK2 := Lib.hid (HK.out.and hk)
      clear hk
      go_wp2_with fail
      refine (HR2.out _).mono ?_
      rintro e w3 ⟨rfl, hk⟩
      have HK3 := Lib.hid (HK2.out.and hk)
      clear hk
      go_wp2_with fail
      go_ret2
      exact ⟨by rw [HF.out]; rfl, HK3.out⟩
  · have t1 : decide (k < W) = false := decide_eq_false hgt
    have t1' : decide ((k : Int) < (W : Int)) = false := decide_eq_false (by omega)
    have HC2 := Lib.hid (fun w (h : VS w) => HC.out k (by omega) w h)
    rw [cutR_all k (rns l) 0 (by omega), ← hWD] at HC2
    have hMl : (enc (rns l)).length ≤ 400000 := by
      have := enc_bound (rns l)
      have := rns_len l
      omega
    have hF : fitS l k = enc (rns l) ++ enc (List.replicate (k - W) 32) := by
      rw [hfit]
      unfold fitR
      rw [← hWD, if_neg hgt, enc_app]
    have q3 : IntKind.i64.wrap ((k : Int) - (W : Int)) = ((k - W : Nat) : Int) := (IntWalk.i64_in _ (by omega)).trans (by omega)
    have HR2 := Lib.hid (fun w => HR.out (k - W) (by omega) w)
    obtain ⟨n, hn⟩ : ∃ n, k - W = n := ⟨_, rfl⟩
    rw [hn] at hF q3 HR2
    have hn200 : n ≤ 200 := by omega
    have hspl := spaces_len n
    obtain ⟨sp, hsp⟩ : ∃ sp, enc (List.replicate n 32) = sp := ⟨_, rfl⟩
    obtain ⟨hd, hhd⟩ : ∃ hd, enc (rns l) = hd := ⟨_, rfl⟩
    rw [hsp] at hF HR2 hspl
    rw [hhd] at hF HC2 hMl
    have s1 := strOf_size hd
    have s2 := strOf_size sp
    have e0 : strOf hd ++ ({ data := #[] } : ByteArray) = strOf hd := by
      have := strOf_app hd []
      rw [List.append_nil] at this
      exact this
    have HF := Lib.hid (show strOf (fitS l k) = strOf hd ++ { data := #[] } ++ strOf sp by rw [e0, strOf_app, hF])
    have HF2 := Lib.hid (show strOf (fitS l k) = strOf hd ++ strOf sp by rw [strOf_app, hF])
    have s4 : (strOf hd ++ ({ data := #[] } : ByteArray)).size = hd.length := by rw [e0, s1]
    clear hgt hfit hWD hW hk hV hF hn hsp hhd
    go_enter Tryd.func14, Tryd.ntmps14
    go_wp2_with fail
    refine HW.out.mono ?_
    rintro e w1 ⟨rfl, hk⟩
    have HK := Lib.hid hk
    clear hk
    go_wp2_with fail
    refine (HC2.out _ (HV.out.no HK.out)).mono ?_
    rintro e w2 ⟨rfl, hk⟩
    have HK2 := Lib.hid (HK.out.and hk)
    clear hk
    go_wp2_with fail
    refine (HR2.out _).mono ?_
    rintro e w3 ⟨rfl, hk⟩
    have HK3 := Lib.hid (HK2.out.and hk)
    clear hk
    go_wp2_with fail
    go_ret2
    exact ⟨by first | (rw [HF.out]; rfl) | (rw [HF2.out]; rfl), HK3.out⟩
end Go.Proofs.YtoahnfmbmpllaaaDoor
