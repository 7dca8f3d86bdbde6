/-
  Bracket, the document's model: undo.
-/
import Derived.Test.YtphlpclhmodekaaDoorWalkY
set_option linter.unusedVariables false
set_option linter.unusedSimpArgs false
namespace Go.Proofs.YtphlpclhmodekaaDoor
open Go.RowKit Go.Zn
attribute [local go_sem] Oper.semAt_some

theorem undoM_out {k E : Nat} {f : Nat → Nat} {g r cap : Nat} {w : World} (hM : MS k E f g r cap w) {m : Int} (hm : m < 0 ∨ ((2 ^ k : Nat) : Int) - 1 ≤ m) : Calls Tryd.prog 47 #[.pointer (some ⟨g, 0, none⟩), .int .i64 m] w fun e w' => e = .returned (.int .i64 3) ∧ w' = w := by
  have hp := Nat.one_le_two_pow (n := k)
  obtain ⟨S, hS⟩ : ∃ S, 2 ^ k = S := ⟨_, rfl⟩
  have cr : w.cell? ⟨g, 2, none⟩ = some (.slice (some ⟨r, 0, none⟩) (S - 1) cap) := by rw [← hS]; exact hM.row
  rw [hS] at hm hp
  clear hM hS
  by_cases h : m < 0
  · have q1 : decide (m < 0) = true := decide_eq_true h
    clear h hm
    go_enter Tryd.func47, Tryd.ntmps47
    go_wp2_with fail
    go_ret
    exact ⟨rfl, rfl⟩
  · have q1 : decide (m < 0) = false := decide_eq_false h
    have q2 : decide (((S - 1 : Nat) : Int) ≤ m) = true := decide_eq_true (by omega)
    clear h hm
    go_enter Tryd.func47, Tryd.ntmps47
    go_wp2_with fail
    go_ret
    exact ⟨rfl, rfl⟩
/-- what a call of undo in range begins with -/
structure UM (S m : Nat) : Prop where
  le : S ≤ 64
  lt : m + 1 < S
theorem UM.q {S m : Nat} (h : UM S m) : decide (S ≤ m + 1) = false ∧ decide (S - 1 ≤ m) = false ∧ decide (((S - 1 : Nat) : Int) ≤ (m : Int)) = false ∧ decide ((m : Int) < 0) = false ∧ (0 : Int) ≤ (m : Int) ∧ (m : Int) < ((S - 1 : Nat) : Int) ∧ m < S - 1 := by
  have := h.le
  have := h.lt
  exact ⟨decide_eq_false (by omega), decide_eq_false (by omega), decide_eq_false (by omega), decide_eq_false (by omega), by omega, by omega, by omega⟩
theorem undoM_not {k E : Nat} {f : Nat → Nat} {g r cap : Nat} {w : World} (hM : MS k E f g r cap w) {m : Nat} (hm : m + 1 < 2 ^ k) (h0 : f m = 0) : Calls Tryd.prog 47 #[.pointer (some ⟨g, 0, none⟩), .int .i64 (m : Nat)] w fun e w' => e = .returned (.int .i64 8) ∧ w' = w := by
  have cm := hM.won m hm
  rw [h0] at cm
  have hle : 2 ^ k ≤ 64 := hM.z.le
  obtain ⟨S, hS⟩ : ∃ S, 2 ^ k = S := ⟨_, rfl⟩
  have cr : w.cell? ⟨g, 2, none⟩ = some (.slice (some ⟨r, 0, none⟩) (S - 1) cap) := by rw [← hS]; exact hM.row
  rw [hS] at hm hle
  obtain ⟨q1, q2, q3, q4, b0, b1, b2⟩ := (UM.mk hle hm).q
  clear hM hS hm hle h0
  go_enter Tryd.func47, Tryd.ntmps47
  go_wp2_with fail
  go_ret
  exact ⟨rfl, rfl⟩
theorem undoM_bye {k E : Nat} {f : Nat → Nat} {g r cap : Nat} {w : World} (hM : MS k E f g r cap w) (hwf : WF k E f) {m : Nat} (hm : m + 1 < 2 ^ k) (hby : byeF k E m = true) : Calls Tryd.prog 47 #[.pointer (some ⟨g, 0, none⟩), .int .i64 (m : Nat)] w fun e w' => e = .returned (.int .i64 8) ∧ Kept No w w' := by
  have cm := hM.won m hm
  rw [hwf.bye m hby] at cm
  have hle : 2 ^ k ≤ 64 := hM.z.le
  have HB := Lib.hid (show Calls Tryd.prog 46 #[.pointer (some ⟨g, 0, none⟩), .int .i64 (m : Nat)] w fun e w' => e = .returned (.bool true) ∧ Kept No w w' from hby ▸ byeM_any hM hwf hm)
  obtain ⟨S, hS⟩ : ∃ S, 2 ^ k = S := ⟨_, rfl⟩
  have cr : w.cell? ⟨g, 2, none⟩ = some (.slice (some ⟨r, 0, none⟩) (S - 1) cap) := by rw [← hS]; exact hM.row
  rw [hS] at hm hle
  obtain ⟨q1, q2, q3, q4, b0, b1, b2⟩ := (UM.mk hle hm).q
  clear hM hS hm hle hwf hby
  go_enter Tryd.func47, Tryd.ntmps47
  go_wp2_with fail
  refine HB.out.mono ?_
  rintro e w1 ⟨rfl, hk⟩
  have HK := Lib.hid hk
  clear hk
  go_wp2_with fail
  go_ret
  exact ⟨rfl, HK.out⟩
theorem after_next {a h m S n : Nat} (hs : a + 2 * h = S) (h1 : a ≤ m) (h2 : m < a + h) (hS : S ≤ 64) (hn : (m + S) / 2 = n) : ∃ d : Nat, IntKind.i64.wrap ((a : Int) + h) = (a : Int) + h ∧ IntKind.i64.wrap ((m : Int) - a) = (m : Int) - a ∧ wrap64 (((m : Int) - a).tdiv 2) = (d : Int) ∧ IntKind.i64.wrap ((a : Int) + h + d) = (n : Int) ∧ wrap64 ((a : Int) + h + d) = (n : Int) := by
  refine ⟨(m - a) / 2, IntWalk.i64_in _ (by omega), IntWalk.i64_in _ (by omega), ?_, (IntWalk.i64_in _ (by omega)).trans (by omega), (IntWalk.wrap64_in _ (by omega)).trans (by omega)⟩
  rw [Int.tdiv_eq_ediv_of_nonneg (by omega)]
  exact (IntWalk.wrap64_in _ (by omega)).trans (by omega)
set_option maxHeartbeats 4000000 in
theorem undoM_done {k E : Nat} {f : Nat → Nat} {g r cap : Nat} {w : World} (hM : MS k E f g r cap w) (hwf : WF k E f) {m : Nat} (hm : m + 1 < 2 ^ k) (hby : byeF k E m = false) (hf : f m ≠ 0) (hx : f (nextF k m) ≠ 0) : Calls Tryd.prog 47 #[.pointer (some ⟨g, 0, none⟩), .int .i64 (m : Nat)] w fun e w' => e = .returned (.int .i64 8) ∧ Kept No w w' := by
  have hle : 2 ^ k ≤ 64 := hM.z.le
  have hl : m + 2 < 2 ^ k := by
    by_cases h : m + 2 < 2 ^ k
    · exact h
    · exact (hx (hwf.out _ (by unfold nextF; omega))).elim
  have HB := Lib.hid (show Calls Tryd.prog 46 #[.pointer (some ⟨g, 0, none⟩), .int .i64 (m : Nat)] w fun e w' => e = .returned (.bool false) ∧ Kept No w w' from hby ▸ byeM_any hM hwf hm)
  have HFR := Lib.hid (fun w (hM : MS k E f g r cap w) => from_any hM hm)
  obtain ⟨n, hn⟩ : ∃ n, nextF k m = n := ⟨_, rfl⟩
  have hn1 : n + 1 < 2 ^ k := by rw [← hn]; unfold nextF; omega
  have hn2 : (m + 2 ^ k) / 2 = n := hn
  rw [hn] at hx
  have HWN := Lib.hid (fun w (hM : MS k E f g r cap w) => hM.won n hn1)
  have cm := hM.won m hm
  have hfm := hM.le m
  have hfn := hM.le n
  obtain ⟨S, hS⟩ : ∃ S, 2 ^ k = S := ⟨_, rfl⟩
  have HRW := Lib.hid (fun w (hM : MS k E f g r cap w) => (show w.cell? ⟨g, 2, none⟩ = some (.slice (some ⟨r, 0, none⟩) (S - 1) cap) by rw [← hS]; exact hM.row))
  have cr := HRW.out w hM
  have HM := Lib.hid hM
  rw [hS] at hm hle hn1 hn2
  obtain ⟨q1, q2, q3, q4, b0, b1, b2⟩ := (UM.mk hle hm).q
  have n1 : decide (n < S - 1) = true := decide_eq_true (by omega)
  have n2 : decide ((n : Int) < ((S - 1 : Nat) : Int)) = true := decide_eq_true (by omega)
  have n3 : (0 : Int) ≤ (n : Int) := by omega
  have n4 : (n : Int) < ((S - 1 : Nat) : Int) := by omega
  have n5 : n < S - 1 := by omega
  have HS := Lib.hid (And.intro hS (And.intro hle hn2))
  obtain ⟨d, hd⟩ : ∃ d, f m = d := ⟨_, rfl⟩
  obtain ⟨c, hc⟩ : ∃ c, f n = c := ⟨_, rfl⟩
  rw [hd] at cm hfm hf
  rw [hc] at HWN hfn hx
  have hd2 : d = 1 ∨ d = 2 := by omega
  have hc2 : c = 1 ∨ c = 2 := by omega
  clear hM hS hm hle hwf hby hf hx hl hn hn1 hn2 hfm hfn hd hc
  rcases hd2 with rfl | rfl
  all_goals
    rcases hc2 with rfl | rfl
    all_goals
      go_enter Tryd.func47, Tryd.ntmps47
      go_wp2_with fail
      refine HB.out.mono ?_
      rintro e w1 ⟨rfl, hk⟩
      have HM1 := Lib.hid (HM.out.no hk)
      have HK1 := Lib.hid hk
      clear hk
      go_wp2_with fail
      refine (HFR.out _ HM1.out).mono ?_
      rintro e w2 ⟨a, h, rfl, hs, ham, hml, _, hk⟩
      obtain ⟨dd, e1, e2, e3, e4, e5⟩ := after_next (hs.trans HS.out.1) ham hml HS.out.2.1 HS.out.2.2
      have HM2 := Lib.hid (HM1.out.no hk)
      have HK2 := Lib.hid (HK1.out.and hk)
      have cr2 := HRW.out _ HM2.out
      have cn2 := HWN.out _ HM2.out
      clear hk hs ham hml
      go_wp2_with fail
      go_ret
      exact ⟨rfl, HK2.out⟩
end Go.Proofs.YtphlpclhmodekaaDoor
