/-
  Bracket, the document's model: undo, done.
-/
import Derived.Test.YtphlpclhmodekaaDoorWalk2
set_option linter.unusedVariables false
set_option linter.unusedSimpArgs false
namespace Go.Proofs.YtphlpclhmodekaaDoor
open Go.RowKit Go.Zn
attribute [local go_sem] Oper.semAt_some

set_option maxHeartbeats 4000000 in
theorem undoM_next {k E : Nat} {f : Nat → Nat} {g r cap : Nat} {w : World} (hM : MS k E f g r cap w) (hwf : WF k E f) {m : Nat} (hm : m + 1 < 2 ^ k) (hby : byeF k E m = false) (hf : f m ≠ 0) (hl : m + 2 < 2 ^ k) (hx : f (nextF k m) = 0) : Calls Tryd.prog 47 #[.pointer (some ⟨g, 0, none⟩), .int .i64 (m : Nat)] w fun e w' => e = .returned (.int .i64 0) ∧ MS k E (upd f m 0) g r cap w' ∧ Kept (fun i => i = r) w w' := by
  have hle : 2 ^ k ≤ 64 := hM.z.le
  have HWM := Lib.hid (fun w (hM : MS k E f g r cap w) => hM.won m hm)
  have HFM := Lib.hid (fun w (hM : MS k E f g r cap w) => hM.fr m hm)
  have HPU := Lib.hid (fun w (hM : MS k E f g r cap w) => hM.put (v := 0) hm (by decide))
  have HB := Lib.hid (show Calls Tryd.prog 46 #[.pointer (some ⟨g, 0, none⟩), .int .i64 (m : Nat)] w fun e w' => e = .returned (.bool false) ∧ Kept No w w' from hby ▸ byeM_any hM hwf hm)
  have HFR := Lib.hid (fun w (hM : MS k E f g r cap w) => from_any hM hm)
  obtain ⟨n, hn⟩ : ∃ n, nextF k m = n := ⟨_, rfl⟩
  have hn1 : n + 1 < 2 ^ k := by rw [← hn]; unfold nextF; omega
  have hn2 : (m + 2 ^ k) / 2 = n := hn
  rw [hn] at hx
  have HWN := Lib.hid (fun w (hM : MS k E f g r cap w) => hM.won n hn1)
  have cm := hM.won m hm
  have hfm := hM.le m
  have hfn := hM.le n
  obtain ⟨S, hS⟩ : ∃ S, 2 ^ k = S := ⟨_, rfl⟩
  have HRW := Lib.hid (fun w (hM : MS k E f g r cap w) => (show w.cell? ⟨g, 2, none⟩ = some (.slice (some ⟨r, 0, none⟩) (S - 1) cap) by rw [← hS]; exact hM.row))
  have cr := HRW.out w hM
  have HM := Lib.hid hM
  rw [hS] at hm hle hn1 hn2
  obtain ⟨q1, q2, q3, q4, b0, b1, b2⟩ := (UM.mk hle hm).q
  have n1 : decide (n < S - 1) = true := decide_eq_true (by omega)
  have n2 : decide ((n : Int) < ((S - 1 : Nat) : Int)) = true := decide_eq_true (by omega)
  have n3 : (0 : Int) ≤ (n : Int) := by omega
  have n4 : (n : Int) < ((S - 1 : Nat) : Int) := by omega
  have n5 : n < S - 1 := by omega
  have HS := Lib.hid (And.intro hS (And.intro hle hn2))
  obtain ⟨d, hd⟩ : ∃ d, f m = d := ⟨_, rfl⟩
  obtain ⟨c, hc⟩ : ∃ c, f n = c := ⟨_, rfl⟩
  rw [hd] at HWM cm hfm hf
  have HD := Lib.hid hd
  rw [hc] at HWN hfn hx
  have HC := Lib.hid hc
  have hd2 : d = 1 ∨ d = 2 := by omega
  have hc2 : c = 0 := hx
  clear hM hS hm hle hwf hby hf hx hl hn hn1 hn2 hfm hfn hd hc
  rcases hd2 with rfl | rfl
  all_goals
    subst hc2
    go_enter Tryd.func47, Tryd.ntmps47
    go_wp2_with fail
    refine HB.out.mono ?_
    rintro e w1 ⟨rfl, hk⟩
    have HM1 := Lib.hid (HM.out.no hk)
    have HK1 := Lib.hid hk
    clear hk
    go_wp2_with fail
    refine (HFR.out _ HM1.out).mono ?_
    rintro e w2 ⟨a, h, rfl, hs, ham, hml, _, hk⟩
    obtain ⟨dd, e1, e2, e3, e4, e5⟩ := after_next (hs.trans HS.out.1) ham hml HS.out.2.1 HS.out.2.2
    have HM2 := Lib.hid (HM1.out.no hk)
    have HK2 := Lib.hid (HK1.out.and hk)
    have cr2 := HRW.out _ HM2.out
    have cn2 := HWN.out _ HM2.out
    have cm2 := HWM.out _ HM2.out
    have ym2 := HFM.out _ HM2.out
    clear hk hs ham hml
    go_wp2_with fail
    go_ret
    exact ⟨rfl, HPU.out _ HM2.out, (HK2.out.any (T := fun i => i = r)).setCell (fun _ => rfl) _⟩
set_option maxHeartbeats 4000000 in
theorem undoM_last {k E : Nat} {f : Nat → Nat} {g r cap : Nat} {w : World} (hM : MS k E f g r cap w) (hwf : WF k E f) {m : Nat} (hm : m + 1 < 2 ^ k) (hby : byeF k E m = false) (hf : f m ≠ 0) (hl : ¬ m + 2 < 2 ^ k) : Calls Tryd.prog 47 #[.pointer (some ⟨g, 0, none⟩), .int .i64 (m : Nat)] w fun e w' => e = .returned (.int .i64 0) ∧ MS k E (upd f m 0) g r cap w' ∧ Kept (fun i => i = r) w w' := by
  have hle : 2 ^ k ≤ 64 := hM.z.le
  have HWM := Lib.hid (fun w (hM : MS k E f g r cap w) => hM.won m hm)
  have HFM := Lib.hid (fun w (hM : MS k E f g r cap w) => hM.fr m hm)
  have HPU := Lib.hid (fun w (hM : MS k E f g r cap w) => hM.put (v := 0) hm (by decide))
  have HB := Lib.hid (show Calls Tryd.prog 46 #[.pointer (some ⟨g, 0, none⟩), .int .i64 (m : Nat)] w fun e w' => e = .returned (.bool false) ∧ Kept No w w' from hby ▸ byeM_any hM hwf hm)
  have HFR := Lib.hid (fun w (hM : MS k E f g r cap w) => from_any hM hm)
  obtain ⟨n, hn⟩ : ∃ n, nextF k m = n := ⟨_, rfl⟩
  have hn2 : (m + 2 ^ k) / 2 = n := hn
  have cm := hM.won m hm
  have hfm := hM.le m
  obtain ⟨S, hS⟩ : ∃ S, 2 ^ k = S := ⟨_, rfl⟩
  have HRW := Lib.hid (fun w (hM : MS k E f g r cap w) => (show w.cell? ⟨g, 2, none⟩ = some (.slice (some ⟨r, 0, none⟩) (S - 1) cap) by rw [← hS]; exact hM.row))
  have cr := HRW.out w hM
  have HM := Lib.hid hM
  rw [hS] at hm hle hn2 hl
  obtain ⟨q1, q2, q3, q4, b0, b1, b2⟩ := (UM.mk hle hm).q
  have n1 : decide (n < S - 1) = false := decide_eq_false (by omega)
  have n2 : decide ((n : Int) < ((S - 1 : Nat) : Int)) = false := decide_eq_false (by omega)
  have n3 : (0 : Int) ≤ (n : Int) := by omega
  have HS := Lib.hid (And.intro hS (And.intro hle hn2))
  obtain ⟨d, hd⟩ : ∃ d, f m = d := ⟨_, rfl⟩
  rw [hd] at HWM cm hfm hf
  have HD := Lib.hid hd
  clear hd
  have hd2 : d = 1 ∨ d = 2 := by omega
  clear hM hS hm hle hwf hby hf hl hn hn2 hfm
  rcases hd2 with rfl | rfl
  all_goals
    go_enter Tryd.func47, Tryd.ntmps47
    go_wp2_with fail
    refine HB.out.mono ?_
    rintro e w1 ⟨rfl, hk⟩
    have HM1 := Lib.hid (HM.out.no hk)
    have HK1 := Lib.hid hk
    clear hk
    go_wp2_with fail
    refine (HFR.out _ HM1.out).mono ?_
    rintro e w2 ⟨a, h, rfl, hs, ham, hml, _, hk⟩
    obtain ⟨dd, e1, e2, e3, e4, e5⟩ := after_next (hs.trans HS.out.1) ham hml HS.out.2.1 HS.out.2.2
    have HM2 := Lib.hid (HM1.out.no hk)
    have HK2 := Lib.hid (HK1.out.and hk)
    have cr2 := HRW.out _ HM2.out
    have cm2 := HWM.out _ HM2.out
    have ym2 := HFM.out _ HM2.out
    clear hk hs ham hml
    go_wp2_with fail
    go_ret
    exact ⟨rfl, HPU.out _ HM2.out, (HK2.out.any (T := fun i => i = r)).setCell (fun _ => rfl) _⟩
end Go.Proofs.YtphlpclhmodekaaDoor
