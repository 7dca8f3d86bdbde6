/-
  Bracket, the document's model: the entrants of every match, byes, open matches.
-/
import Derived.Test.YtphlpclhmodekaaDoorWalkT
set_option linter.unusedVariables false
set_option linter.unusedSimpArgs false
namespace Go.Proofs.YtphlpclhmodekaaDoor
open Go.RowKit Go.Zn
attribute [local go_sem] Oper.semAt_some

set_option maxRecDepth 100000 in
set_option maxHeartbeats 4000000 in
theorem seatsMK (k E : Nat) (f : Nat → Nat) (g r cap : Nat) : ∀ m, m + 1 < 2 ^ k → SeatsMK k E f g r cap m := by
  intro m
  induction m using Nat.strongRecOn with
  | _ m ih =>
    intro hm w hM
    by_cases h2 : 2 * m < 2 ^ k
    · rw [seats_first f h2]
      exact seatsM_first h2 hM
    · rw [seats_later f h2 hm]
      have hle := hM.z.le
      obtain ⟨c, hc⟩ : ∃ c, 2 * m - 2 ^ k = c := ⟨_, rfl⟩
      rw [hc]
      have HFR := Lib.hid (fun w (hM : MS k E f g r cap w) => from_any hM hm)
      have HA := Lib.hid (fun w (hM : MS k E f g r cap w) => winnerM_of (ih c (by omega) (by omega)) hM (by omega))
      have HC := Lib.hid (fun w (hM : MS k E f g r cap w) => (show Calls Tryd.prog 39 #[.pointer (some ⟨g, 0, none⟩), .int .i64 ((c : Int) + 1)] w fun e w' => e = .returned (.int .i64 (winF k E f (c + 1))) ∧ Kept No w w' from winnerM_of (ih (c + 1) (by omega) (by omega)) hM (by omega)))
      have HM := Lib.hid hM
      have HX := Lib.hid (And.intro h2 (And.intro hm (And.intro hle hc)))
      obtain ⟨x, hx⟩ : ∃ x, winF k E f c = x := ⟨_, rfl⟩
      obtain ⟨y, hy⟩ : ∃ y, winF k E f (c + 1) = y := ⟨_, rfl⟩
      rw [hx] at HA ⊢
      rw [hy] at HC ⊢
      clear hM ih h2 hm hle hc hx hy
      go_enter Tryd.func40, Tryd.ntmps40
      go_wp2_with fail
      refine (HFR.out _ HM.out).mono ?_
      rintro e w1 ⟨a, h, rfl, hs, ham, hml, ha0, hk⟩
      have HM1 := Lib.hid (HM.out.no hk)
      have HK1 := Lib.hid hk
      obtain ⟨x2, xm, xl, xc⟩ := HX.out
      have haz : (a == 0) = false := by
        rcases ha0 with h | h
        · omega
        · have : a ≠ 0 := by omega
          simpa using this
      have haz' : ((a : Int) == 0) = false := by
        have : a ≠ 0 := by simpa using haz
        simpa using this
      have e1 : IntKind.i64.wrap (2 * (h : Int)) = 2 * (h : Int) := IntWalk.i64_in _ (by omega)
      have e2 : IntKind.i64.wrap ((a : Int) - 2 * h) = (a : Int) - 2 * h := IntWalk.i64_in _ (by omega)
      have e3 : IntKind.i64.wrap ((m : Int) - a) = (m : Int) - a := IntWalk.i64_in _ (by omega)
      have e4 : IntKind.i64.wrap (2 * ((m : Int) - a)) = 2 * ((m : Int) - a) := IntWalk.i64_in _ (by omega)
      have e5 : IntKind.i64.wrap ((a : Int) - 2 * h + 2 * ((m : Int) - a)) = (c : Nat) := (IntWalk.i64_in _ (by omega)).trans (by omega)
      have e6 : IntKind.i64.wrap ((c : Int) + 1) = (c : Int) + 1 := IntWalk.i64_in _ (by omega)
      clear hs ham hml ha0 hk x2 xm xl xc
      go_wp2_with fail
      refine (HA.out _ HM1.out).mono ?_
      rintro e w2 ⟨rfl, hk⟩
      have HM2 := Lib.hid (HM1.out.no hk)
      have HK2 := Lib.hid (HK1.out.and hk)
      clear hk
      go_wp2_with fail
      refine (HC.out _ HM2.out).mono ?_
      rintro e w3 ⟨rfl, hk⟩
      have HK3 := Lib.hid (HK2.out.and hk)
      clear hk
      go_wp2_with fail
      go_ret
      exact ⟨w3.heap.size, rfl, HK3.out.size, heap_alloc_new w3 _, HK3.out.alloc _⟩

theorem seatsM_any {k E : Nat} {f : Nat → Nat} {g r cap m : Nat} {w : World} (hM : MS k E f g r cap w) (hm : m + 1 < 2 ^ k) : Calls Tryd.prog 40 #[.pointer (some ⟨g, 0, none⟩), .int .i64 (m : Nat)] w (PairPost (seatsF k E f m).1 (seatsF k E f m).2 w) := seatsMK k E f g r cap m hm w hM
theorem winnerM_any {k E : Nat} {f : Nat → Nat} {g r cap m : Nat} {w : World} (hM : MS k E f g r cap w) (hm : m + 1 < 2 ^ k) : Calls Tryd.prog 39 #[.pointer (some ⟨g, 0, none⟩), .int .i64 (m : Nat)] w fun e w' => e = .returned (.int .i64 (winF k E f m)) ∧ Kept No w w' := winnerM_of (seatsMK k E f g r cap m hm) hM hm

/-- bye, as the document has it -/
theorem byeM_any {k E : Nat} {f : Nat → Nat} {g r cap m : Nat} {w : World} (hM : MS k E f g r cap w) (hwf : WF k E f) (hm : m + 1 < 2 ^ k) : Calls Tryd.prog 46 #[.pointer (some ⟨g, 0, none⟩), .int .i64 (m : Nat)] w fun e w' => e = .returned (.bool (byeF k E m)) ∧ Kept No w w' := by
  have hbs := hwf.bye_seats hM.z hm
  have hs := seatsM_any hM hm
  obtain ⟨⟨x, y⟩, hxy⟩ : ∃ s, seatsF k E f m = s := ⟨_, rfl⟩
  rw [hxy] at hbs hs
  obtain ⟨R, hR⟩ : ∃ R, byeF k E m = R := ⟨_, rfl⟩
  rw [hR] at hbs
  rw [hR]
  have HS := Lib.hid hs
  clear hs hxy hR hM hwf hm
  by_cases hx : x = -2
  · have q4 : (x == -2) = true := by simpa using hx
    have HR := Lib.hid (show R = true by rw [hbs]; simp [hx])
    clear hbs hx
    go_enter Tryd.func46, Tryd.ntmps46
    go_wp2_with fail
    refine HS.out.mono ?_
    rintro e w1 ⟨q, rfl, hq, hcell, hk⟩
    have c0 := obj_cell hcell 0
    have c1 := obj_cell hcell 1
    have HK := Lib.hid hk
    clear hcell hk hq
    go_wp2_with fail
    go_ret
    exact ⟨by rw [HR.out]; rfl, HK.out⟩
  · have q4 : (x == -2) = false := by simpa using hx
    have HR := Lib.hid (show R = (y == -2) by
      rw [hbs]
      simp only [hx, decide_false, Bool.false_or]
      by_cases hy : y = -2 <;> simp [hy])
    clear hbs hx
    obtain ⟨t, ht⟩ : ∃ t, (y == -2) = t := ⟨_, rfl⟩
    rw [ht] at HR
    go_enter Tryd.func46, Tryd.ntmps46
    go_wp2_with fail
    refine HS.out.mono ?_
    rintro e w1 ⟨q, rfl, hq, hcell, hk⟩
    have c0 := obj_cell hcell 0
    have c1 := obj_cell hcell 1
    have HK := Lib.hid hk
    clear hcell hk hq
    go_wp2_with fail
    go_ret
    exact ⟨by rw [HR.out]; rfl, HK.out⟩

theorem openM_any {k E : Nat} {f : Nat → Nat} {g r cap m : Nat} {w : World} (hM : MS k E f g r cap w) (hm : m + 1 < 2 ^ k) : Calls Tryd.prog 45 #[.pointer (some ⟨g, 0, none⟩), .int .i64 (m : Nat)] w fun e w' => e = .returned (.bool (openF k E f m)) ∧ Kept No w w' := by
  have hs := seatsM_any hM hm
  have hf := hM.le m
  have HW := Lib.hid (fun w (hM : MS k E f g r cap w) => hM.won m hm)
  obtain ⟨S, hS⟩ : ∃ S, 2 ^ k = S := ⟨_, rfl⟩
  have HRW := Lib.hid (fun w (hM : MS k E f g r cap w) => (show w.cell? ⟨g, 2, none⟩ = some (.slice (some ⟨r, 0, none⟩) (S - 1) cap) by rw [← hS]; exact hM.row))
  have hb0 : (0 : Int) ≤ (m : Int) := by omega
  have hb1 : (m : Int) < ((S - 1 : Nat) : Int) := by omega
  have hb2 : m < S - 1 := by omega
  obtain ⟨⟨x, y⟩, hxy⟩ : ∃ s, seatsF k E f m = s := ⟨_, rfl⟩
  rw [hxy] at hs
  have hop : openF k E f m = (decide (f m = 0) && (decide (0 ≤ x) && decide (0 ≤ y))) := by unfold openF; rw [hxy]
  obtain ⟨d, hd⟩ : ∃ d, f m = d := ⟨_, rfl⟩
  obtain ⟨R, hR⟩ : ∃ R, openF k E f m = R := ⟨_, rfl⟩
  rw [hd] at hop hf
  rw [hR] at hop
  rw [hR]
  have HD := Lib.hid hd
  have HS := Lib.hid hs
  have HM := Lib.hid hM
  clear hs hxy hR hM hm hd hS
  by_cases h0 : d = 0
  · subst h0
    by_cases hx : 0 ≤ x
    · have q1 : decide (0 ≤ x) = true := decide_eq_true hx
      have HR := Lib.hid (show R = decide (0 ≤ y) by rw [hop]; simp [hx])
      clear hop hx hf
      obtain ⟨t, ht⟩ : ∃ t, decide (0 ≤ y) = t := ⟨_, rfl⟩
      rw [ht] at HR
      go_enter Tryd.func45, Tryd.ntmps45
      go_wp2_with fail
      refine HS.out.mono ?_
      rintro e w1 ⟨q, rfl, hq, hcell, hk⟩
      have c0 := obj_cell hcell 0
      have c1 := obj_cell hcell 1
      have cm := HW.out _ (HM.out.no hk)
      rw [HD.out] at cm
      have cr := HRW.out _ (HM.out.no hk)
      have HK := Lib.hid hk
      clear hcell hk hq
      go_wp2_with fail
      go_ret
      exact ⟨by rw [HR.out]; rfl, HK.out⟩
    · have q1 : decide (0 ≤ x) = false := decide_eq_false hx
      have HR := Lib.hid (show R = false by rw [hop]; simp [hx])
      clear hop hx hf
      go_enter Tryd.func45, Tryd.ntmps45
      go_wp2_with fail
      refine HS.out.mono ?_
      rintro e w1 ⟨q, rfl, hq, hcell, hk⟩
      have c0 := obj_cell hcell 0
      have c1 := obj_cell hcell 1
      have cm := HW.out _ (HM.out.no hk)
      rw [HD.out] at cm
      have cr := HRW.out _ (HM.out.no hk)
      have HK := Lib.hid hk
      clear hcell hk hq
      go_wp2_with fail
      go_ret
      exact ⟨by rw [HR.out]; rfl, HK.out⟩
  · have HR := Lib.hid (show R = false by rw [hop]; simp [h0])
    have hd2 : d = 1 ∨ d = 2 := by omega
    clear hop hf h0
    rcases hd2 with rfl | rfl
    all_goals
      go_enter Tryd.func45, Tryd.ntmps45
      go_wp2_with fail
      refine HS.out.mono ?_
      rintro e w1 ⟨q, rfl, hq, hcell, hk⟩
      have cm := HW.out _ (HM.out.no hk)
      rw [HD.out] at cm
      have cr := HRW.out _ (HM.out.no hk)
      have HK := Lib.hid hk
      clear hcell hk hq
      go_wp2_with fail
      go_ret
      exact ⟨by rw [HR.out]; rfl, HK.out⟩
end Go.Proofs.YtphlpclhmodekaaDoor
