/-
  Bracket, the document's model: open, report, undo.
-/
import Derived.Test.YtphlpclhmodekaaDoorWalkU
set_option linter.unusedVariables false
set_option linter.unusedSimpArgs false
namespace Go.Proofs.YtphlpclhmodekaaDoor
open Go.RowKit Go.Zn
attribute [local go_sem] Oper.semAt_some

def OMRel (k E : Nat) (f : Nat → Nat) (g r cap base S : Nat) (w0 : World) (v i : Value) (wr : World) : Prop :=
  ∃ j : Nat, i = .int .i64 (j : Nat) ∧ j + 1 ≤ S ∧ wr.ownsRow base 3 1 v (openL k E f j).length (ints (openL k E f j)) ∧ MS k E f g r cap wr ∧ Kept No w0 wr
set_option maxRecDepth 100000 in
set_option maxHeartbeats 4000000 in
theorem openlM_any {k E : Nat} {f : Nat → Nat} {g r cap : Nat} {w : World} (hM : MS k E f g r cap w) : Calls Tryd.prog 38 #[.pointer (some ⟨g, 0, none⟩)] w (ListPost (openL k E f (2 ^ k - 1)) w) := by
  have hle := hM.z.le
  have HO := Lib.hid (fun w (hM : MS k E f g r cap w) m (hm : m + 1 < 2 ^ k) => openM_any hM hm)
  have hp := Nat.one_le_two_pow (n := k)
  obtain ⟨S, hS⟩ : ∃ S, 2 ^ k = S := ⟨_, rfl⟩
  have HRW := Lib.hid (fun w (hM : MS k E f g r cap w) => (show w.cell? ⟨g, 2, none⟩ = some (.slice (some ⟨r, 0, none⟩) (S - 1) cap) by rw [← hS]; exact hM.row))
  have HM := Lib.hid hM
  rw [hS] at hle hp HO
  rw [hS]
  clear hM hS
  go_enter Tryd.func38, Tryd.ntmps38
  go_wp2_with fail
  go_loopw [3, 4] (fun v i wr => OMRel k E f g r cap w.heap.size S w v i wr) (fun _ i _ => S - (intOf i).toNat)
  case atStart => exact ⟨0, rfl, by omega, World.ownsRow_nil _ _ _ _, HM.out, Kept.refl _ _⟩
  case round =>
    obtain ⟨j, rfl, hj, hown, hm, hk⟩ := hrel
    obtain ⟨ad, cap2, rfl⟩ := owned_slice hown
    obtain ⟨n, hn⟩ : ∃ n, (openL k E f j).length = n := ⟨_, rfl⟩
    have hnj : n ≤ j := by rw [← hn]; exact openL_len k E f j
    rw [hn] at hown ⊢
    have HW := Lib.hid hown
    have HK := Lib.hid hk
    have HMR := Lib.hid hm
    have HNN := Lib.hid hn
    have hnn : n ≤ 64 := by omega
    have cr := HRW.out _ hm
    clear hown hk hn hnj hm
    by_cases hlt : j + 1 < S
    · have d1 : decide (j < S - 1) = true := decide_eq_true (by omega)
      have d1' : decide ((j : Int) < ((S - 1 : Nat) : Int)) = true := decide_eq_true (by omega)
      have q4 : IntKind.i64.wrap ((j : Int) + 1) = (j : Int) + 1 := IntWalk.i64_in _ (by omega)
      have HJ := Lib.hid hlt
      clear hlt
      cases hr : openF k E f j
      · have HC := Lib.hid (show Calls Tryd.prog 45 #[.pointer (some ⟨g, 0, none⟩), .int .i64 (j : Nat)] wr fun e w' => e = .returned (.bool false) ∧ Kept No wr w' from hr ▸ HO.out wr HMR.out j HJ.out)
        have HR := Lib.hid hr
        clear hr
        go_wp2_with fail
        refine HC.out.mono ?_
        rintro e w1 ⟨rfl, hk⟩
        have HK1 := Lib.hid hk
        clear hk
        go_wp2_with fail
        have hj3 := HJ.out
        refine ⟨⟨j + 1, by go_num, by omega, ?_, HMR.out.no HK1.out, HK.out.and HK1.out⟩, by simp [intOf]; omega⟩
        rw [openL_succ, HR.out]
        simp only [Bool.false_eq_true, if_false]
        rw [HNN.out]
        exact owned_kept HW.out HK1.out (fun _ _ _ => not_no _)
      · have HC := Lib.hid (show Calls Tryd.prog 45 #[.pointer (some ⟨g, 0, none⟩), .int .i64 (j : Nat)] wr fun e w' => e = .returned (.bool true) ∧ Kept No wr w' from hr ▸ HO.out wr HMR.out j HJ.out)
        have HR := Lib.hid hr
        clear hr
        have HB1 := Lib.hid (show (n + 1) * 8 ≤ 140737488355328 by omega)
        go_wp2_with fail
        refine HC.out.mono ?_
        rintro e w1 ⟨rfl, hk⟩
        have HK1 := Lib.hid hk
        have HO1 := Lib.hid ((owned_kept HW.out hk (fun _ _ _ => not_no _)).alloc (.cells #[.int .i64 (j : Nat)] 3))
        have HS1 := Lib.hid (show w.heap.size ≤ (w1.alloc (.cells #[.int .i64 (j : Nat)] 3)).heap.size by have := HK.out.size; have := hk.size; simp; omega)
        clear hk
        go_wp2_with (at_builtin; refine wpList_append_rd rfl rfl rfl rfl ei28 HO1.out (rd_new1 w1 (.int .i64 (j : Nat)) 3) (by intro u hu; simp at hu; rw [hu]; rfl) HB1.out HS1.out ?_; intro v2 w2 hown2 hg2 _; obtain ⟨ad2, cap3, rfl⟩ := owned_slice hown2; have HO2 := Lib.hid hown2; have HK2 := Lib.hid (show Kept No w w2 from ((HK.out.and HK1.out).alloc _).grown hg2 (fun k e hlt => by have := (HO1.out.lt k e).1; omega)); have HM2 := Lib.hid (show MS k E f g r cap w2 from HM.out.no HK2.out); clear hown2 hg2)
        have hj3 := HJ.out
        refine ⟨⟨j + 1, by go_num, by omega, ?_, HM2.out, HK2.out⟩, by simp [intOf]; omega⟩
        rw [openL_succ, HR.out]
        simp only [if_true]
        have e2 : (openL k E f j ++ [j]).length = n + 1 := by rw [List.length_append, HNN.out]; rfl
        rw [e2]
        have e3 : ints (openL k E f j ++ [j]) = ints (openL k E f j) ++ [.int .i64 (j : Nat)] := by simp [ints]
        rw [e3]
        exact HO2.out
    · have hjS : j = S - 1 := by omega
      have d1 : decide (j < S - 1) = false := decide_eq_false (by omega)
      have d1' : decide ((j : Int) < ((S - 1 : Nat) : Int)) = false := decide_eq_false (by omega)
      have HJ := Lib.hid hjS
      clear hlt hjS
      go_wp2_with fail
      go_ret
      have ho := HW.out
      rw [HJ.out] at ho
      have hn2 := HNN.out
      rw [HJ.out] at hn2
      refine ⟨.slice ad n cap2, rfl, ?_, HK.out⟩
      rw [hn2]
      exact rd_owned ho

/-- the model's report: the same answer, the same decision -/
theorem reportM_arg {k E : Nat} {f : Nat → Nat} {g r cap : Nat} {w : World} (m s : Int) (hs : s < 0 ∨ 1 < s) : Calls Tryd.prog 24 #[.pointer (some ⟨g, 0, none⟩), .int .i64 m, .int .i64 s] w fun e w' => e = .returned (.int .i64 2) ∧ w' = w := by
  by_cases h : s < 0
  · have q1 : decide (s < 0) = true := decide_eq_true h
    clear h hs
    go_enter Tryd.func24, Tryd.ntmps24
    go_wp2_with fail
    go_ret
    exact ⟨rfl, rfl⟩
  · have q1 : decide (s < 0) = false := decide_eq_false h
    have q2 : decide (1 < s) = true := decide_eq_true (by omega)
    clear h hs
    go_enter Tryd.func24, Tryd.ntmps24
    go_wp2_with fail
    go_ret
    exact ⟨rfl, rfl⟩
theorem reportM_out {k E : Nat} {f : Nat → Nat} {g r cap : Nat} {w : World} (hM : MS k E f g r cap w) {m s : Int} (hs : s = 0 ∨ s = 1) (hm : m < 0 ∨ ((2 ^ k : Nat) : Int) - 1 ≤ m) : Calls Tryd.prog 24 #[.pointer (some ⟨g, 0, none⟩), .int .i64 m, .int .i64 s] w fun e w' => e = .returned (.int .i64 3) ∧ w' = w := by
  have hp := Nat.one_le_two_pow (n := k)
  obtain ⟨S, hS⟩ : ∃ S, 2 ^ k = S := ⟨_, rfl⟩
  have cr : w.cell? ⟨g, 2, none⟩ = some (.slice (some ⟨r, 0, none⟩) (S - 1) cap) := by rw [← hS]; exact hM.row
  rw [hS] at hm hp
  clear hM hS
  by_cases h : m < 0
  · have q1 : decide (m < 0) = true := decide_eq_true h
    clear h hm
    rcases hs with rfl | rfl
    all_goals
      go_enter Tryd.func24, Tryd.ntmps24
      go_wp2_with fail
      go_ret
      exact ⟨rfl, rfl⟩
  · have q1 : decide (m < 0) = false := decide_eq_false h
    have q2 : decide (((S - 1 : Nat) : Int) ≤ m) = true := decide_eq_true (by omega)
    clear h hm
    rcases hs with rfl | rfl
    all_goals
      go_enter Tryd.func24, Tryd.ntmps24
      go_wp2_with fail
      go_ret
      exact ⟨rfl, rfl⟩
theorem reportM_shut {k E : Nat} {f : Nat → Nat} {g r cap : Nat} {w : World} (hM : MS k E f g r cap w) {m : Nat} {s : Int} (hs : s = 0 ∨ s = 1) (hm : m + 1 < 2 ^ k) (ho : openF k E f m = false) : Calls Tryd.prog 24 #[.pointer (some ⟨g, 0, none⟩), .int .i64 (m : Nat), .int .i64 s] w fun e w' => e = .returned (.int .i64 8) ∧ Kept No w w' := by
  have HO := Lib.hid (show Calls Tryd.prog 45 #[.pointer (some ⟨g, 0, none⟩), .int .i64 (m : Nat)] w fun e w' => e = .returned (.bool false) ∧ Kept No w w' from ho ▸ openM_any hM hm)
  obtain ⟨S, hS⟩ : ∃ S, 2 ^ k = S := ⟨_, rfl⟩
  have cr : w.cell? ⟨g, 2, none⟩ = some (.slice (some ⟨r, 0, none⟩) (S - 1) cap) := by rw [← hS]; exact hM.row
  rw [hS] at hm
  have q2 : decide (S - 1 ≤ m) = false := decide_eq_false (by omega)
  have q2' : decide (((S - 1 : Nat) : Int) ≤ (m : Int)) = false := decide_eq_false (by omega)
  have q3 : decide (S ≤ m + 1) = false := decide_eq_false (by omega)
  have q1 : decide ((m : Int) < 0) = false := decide_eq_false (by omega)
  clear hM hS hm ho
  rcases hs with rfl | rfl
  all_goals
    go_enter Tryd.func24, Tryd.ntmps24
    go_wp2_with fail
    refine HO.out.mono ?_
    rintro e w1 ⟨rfl, hk⟩
    have HK := Lib.hid hk
    clear hk
    go_wp2_with fail
    go_ret
    exact ⟨rfl, HK.out⟩
theorem reportM_open {k E : Nat} {f : Nat → Nat} {g r cap : Nat} {w : World} (hM : MS k E f g r cap w) {m s : Nat} (hm : m + 1 < 2 ^ k) (hs : s ≤ 1) (ho : openF k E f m = true) : Calls Tryd.prog 24 #[.pointer (some ⟨g, 0, none⟩), .int .i64 (m : Nat), .int .i64 (s : Nat)] w fun e w' => e = .returned (.int .i64 0) ∧ MS k E (upd f m (s + 1)) g r cap w' ∧ Kept (fun i => i = r) w w' := by
  have HO := Lib.hid (show Calls Tryd.prog 45 #[.pointer (some ⟨g, 0, none⟩), .int .i64 (m : Nat)] w fun e w' => e = .returned (.bool true) ∧ Kept No w w' from ho ▸ openM_any hM hm)
  have HM := Lib.hid hM
  have HWN := Lib.hid (fun w (h : MS k E f g r cap w) => h.won m hm)
  have HFR := Lib.hid (fun w (h : MS k E f g r cap w) => h.fr m hm)
  have HPU := Lib.hid (fun w (h : MS k E f g r cap w) v (hv : v ≤ 2) => h.put hm hv)
  obtain ⟨S, hS⟩ : ∃ S, 2 ^ k = S := ⟨_, rfl⟩
  have HRW := Lib.hid (fun w (hM : MS k E f g r cap w) => (show w.cell? ⟨g, 2, none⟩ = some (.slice (some ⟨r, 0, none⟩) (S - 1) cap) by rw [← hS]; exact hM.row))
  rw [hS] at hm
  have q2 : decide (S - 1 ≤ m) = false := decide_eq_false (by omega)
  have q2' : decide (((S - 1 : Nat) : Int) ≤ (m : Int)) = false := decide_eq_false (by omega)
  have q3 : decide (S ≤ m + 1) = false := decide_eq_false (by omega)
  have q1 : decide ((m : Int) < 0) = false := decide_eq_false (by omega)
  have hb0 : (0 : Int) ≤ (m : Int) := by omega
  have hb1 : (m : Int) < ((S - 1 : Nat) : Int) := by omega
  have hb2 : m < S - 1 := by omega
  have cr := HRW.out w hM
  clear hM hS hm ho
  obtain rfl | rfl : s = 0 ∨ s = 1 := by omega
  all_goals
    go_enter Tryd.func24, Tryd.ntmps24
    go_wp2_with fail
    refine HO.out.mono ?_
    rintro e w1 ⟨rfl, hk⟩
    have HM1 := Lib.hid (HM.out.no hk)
    have HK := Lib.hid hk
    clear hk
    have cr1 := HRW.out _ HM1.out
    have cm := HWN.out _ HM1.out
    have ym := HFR.out _ HM1.out
    go_wp2_with fail
    go_ret
    exact ⟨rfl, HPU.out _ HM1.out _ (by decide), (HK.out.any (T := fun i => i = r)).setCell (fun _ => rfl) _⟩
end Go.Proofs.YtphlpclhmodekaaDoor
