/-
  Bracket, the document's model: rank.
-/
import Derived.Test.YtphlpclhmodekaaDoorWalkV
set_option linter.unusedVariables false
set_option linter.unusedSimpArgs false
namespace Go.Proofs.YtphlpclhmodekaaDoor
open Go.RowKit Go.Zn
attribute [local go_sem] Oper.semAt_some

/-- a round: its first match, how many it has -/
def RK (k R a h : Nat) : Prop := R < k ∧ a + 2 ^ (k - R) = 2 ^ k ∧ h = 2 ^ (k - R - 1)
theorem RK.sum {k R a h : Nat} (r : RK k R a h) : a + 2 * h = 2 ^ k ∧ 1 ≤ h := by
  obtain ⟨r1, r2, r3⟩ := r
  have := pow_split r1
  have := Nat.one_le_two_pow (n := k - R - 1)
  omega
theorem RK.path {k R a h h0 : Nat} (r : RK k R a h) (hh : 2 * h0 < 2 ^ k) : a ≤ pathF k h0 R ∧ pathF k h0 R < a + h := by
  have ⟨p1, p2⟩ := path_in hh R r.1
  have := r.sum
  obtain ⟨r1, r2, r3⟩ := r
  omega
theorem RK.only {k E R a h p e i : Nat} {f : Nat → Nat} (r : RK k R a h) (hp : seedK k p = e) (pl : p < 2 ^ k) (h1 : a ≤ i) (h2 : i < a + h) (hh : Has k E f e i) : i = pathF k (p / 2) R := by
  have := r.sum
  obtain ⟨r1, r2, r3⟩ := r
  exact has_only hp pl (by omega) r1 (by omega) (by omega) hh
theorem RK.zero {k : Nat} (hk : 1 ≤ k) : RK k 0 0 (2 ^ (k - 1)) := ⟨by omega, by simp, by simp⟩
theorem RK.next {k R a h : Nat} (r : RK k R a h) (hn : R + 1 < k) : RK k (R + 1) (a + h) (h / 2) := by
  have := r.sum
  obtain ⟨r1, r2, r3⟩ := r
  have e := pow_split hn
  rw [show k - (R + 1) = k - R - 1 by omega] at *
  refine ⟨hn, ?_, ?_⟩
  · rw [show k - (R + 1) = k - R - 1 by omega]; omega
  · rw [show k - (R + 1) - 1 = k - R - 1 - 1 by omega]; omega
theorem RK.last {k R a h : Nat} (r : RK k R a h) (hn : R + 1 = k) : h / 2 = 0 ∧ h = 1 := by
  obtain ⟨r1, r2, r3⟩ := r
  rw [show k - R - 1 = 0 by omega] at r3
  simp at r3
  omega
/-- what is known at a round's beginning -/
def RKK (k E : Nat) (f : Nat → Nat) (e p : Nat) (Res : Int) (a h R : Nat) : Prop :=
  (RK k R a h ∧ Has k E f e (pathF k (p / 2) R) ∧ rankFrom k E f e (pathF k (p / 2) R) R = Res) ∨ (R = k ∧ h = 0 ∧ a ≤ 64 ∧ Res = (k : Int))
theorem RKK.lost {k E : Nat} {f : Nat → Nat} {e m R : Nat} {Res : Int} (h : rankFrom k E f e m R = Res) : (winF k E f m = -1 → Res = -1) ∧ (winF k E f m ≠ -1 → winF k E f m ≠ e → Res = R) := by
  rw [rankFrom] at h
  constructor
  · intro h1; rw [if_pos h1] at h; exact h.symm
  · intro h1 h2; rw [if_neg h1, if_pos h2] at h; exact h.symm
theorem RKK.won {k E : Nat} {f : Nat → Nat} {e p R a h : Nat} {Res : Int} (pl : p < 2 ^ k) (h6 : 2 ^ k ≤ 64) (r : RK k R a h) (hr : rankFrom k E f e (pathF k (p / 2) R) R = Res) (hw : winF k E f (pathF k (p / 2) R) = e) : RKK k E f e p Res (a + h) (h / 2) (R + 1) := by
  have hs := r.sum
  have hp := r.path (h0 := p / 2) (by omega)
  rw [rankFrom, if_neg (by rw [hw]; omega), if_neg (by simpa using hw)] at hr
  by_cases hn : R + 1 < k
  · have hs2 := (r.next hn).sum
    rw [dif_pos (by omega)] at hr
    exact .inl ⟨r.next hn, has_next (by omega) (by omega) hw, hr⟩
  · have r1 := r.1
    have hl := r.last (by omega)
    rw [dif_neg (by omega)] at hr
    exact .inr ⟨by omega, hl.1, by omega, by rw [← hr]; congr 1; omega⟩

def RMO (k E : Nat) (f : Nat → Nat) (g r cap e p : Nat) (Res : Int) (w0 : World) (av hv rv : Value) (wr : World) : Prop :=
  ∃ a h R : Nat, av = .int .i64 (a : Nat) ∧ hv = .int .i64 (h : Nat) ∧ rv = .int .i64 (R : Nat) ∧ RKK k E f e p Res a h R ∧ R ≤ k ∧ MS k E f g r cap wr ∧ Kept No w0 wr
def RMI (k E : Nat) (f : Nat → Nat) (g r cap e P a h : Nat) (w0 : World) (iv : Value) (wr : World) : Prop :=
  ∃ i : Nat, iv = .int .i64 (i : Nat) ∧ a ≤ i ∧ i ≤ a + h ∧ (P < i → winF k E f P = e) ∧ MS k E f g r cap wr ∧ Kept No w0 wr
theorem half1 {H : Nat} (h : H ≤ 64) : wrap64 (((2 * H : Nat) : Int) / 2) = H := (IntWalk.wrap64_in _ (by omega)).trans (by omega)
theorem half2 {H : Nat} (h : H ≤ 64) : wrap64 ((2 * (H : Int)) / 2) = H := (IntWalk.wrap64_in _ (by omega)).trans (by omega)
set_option maxRecDepth 100000 in
set_option maxHeartbeats 8000000 in
theorem rankM_any {k E : Nat} {f : Nat → Nat} {g r cap : Nat} {w : World} (hM : MS k E f g r cap w) {e p : Nat} (he : e < E) (hp : seedK k p = e) (pl : p < 2 ^ k) : Calls Tryd.prog 41 #[.pointer (some ⟨g, 0, none⟩), .int .i64 (e : Nat)] w fun x w' => x = .returned (.int .i64 (rankF k E f e p)) ∧ Kept No w w' := by
  have hle := hM.z.le
  have hk1 := hM.z.one
  have hk6 := hM.z.six
  obtain ⟨H, hH, hH1, hH32, hHk⟩ := hM.z.pow
  have hhas := (has_home f hp pl hk1 he).2
  obtain ⟨Res, hR⟩ : ∃ R, rankF k E f e p = R := ⟨_, rfl⟩
  rw [hR]
  have HST := Lib.hid (show RKK k E f e p Res 0 H 0 from .inl ⟨hHk ▸ RK.zero hk1, hhas, hR⟩)
  have HSE := Lib.hid (fun w (hM : MS k E f g r cap w) m (hm : m + 1 < 2 ^ k) => seatsM_any hM hm)
  have HWI := Lib.hid (fun w (hM : MS k E f g r cap w) m (hm : m + 1 < 2 ^ k) => winnerM_any hM hm)
  have c1 := hM.size
  rw [hH] at c1
  have q2 := half1 (H := H) (Nat.le_trans hH32 (by decide))
  have q2' := half2 (H := H) (Nat.le_trans hH32 (by decide))
  have HM := Lib.hid hM
  have HX := Lib.hid (And.intro hp (And.intro pl (And.intro hle hk6)))
  clear hR hhas hM hH hHk hp pl he hle hk1
  go_enter Tryd.func41, Tryd.ntmps41
  go_wp2_with fail
  go_quiet (fail)
  go_wp2_with fail
  go_loopw [5, 6, 7] (fun av hv rv wr => RMO k E f g r cap e p Res w av hv rv wr) (fun _ _ rv _ => 64 - (intOf rv).toNat)
  case atStart => exact ⟨0, H, 0, rfl, rfl, rfl, HST.out, Nat.zero_le _, HM.out.no ((Kept.refl No w).drewN nq), (Kept.refl No w).drewN nq⟩
  case round =>
    obtain ⟨wo, hwo⟩ : ∃ x, x = wr := ⟨_, rfl⟩
    subst hwo
    obtain ⟨a, h, R, rfl, rfl, rfl, hrk, hRk, hm, hk⟩ := hrel
    rcases hrk with ⟨hr, hhas, hres⟩ | ⟨hRe, h0, ha64, hres⟩
    · have hs := hr.sum
      have hpa := hr.path (h0 := p / 2) (by have := HX.out.2.1; omega)
      have hl6 := HX.out.2.2.1
      have d1 : decide (0 < h) = true := decide_eq_true (by omega)
      have d1' : decide (0 < (h : Int)) = true := decide_eq_true (by omega)
      have q3 : IntKind.i64.wrap ((a : Int) + h) = (a : Int) + h := IntWalk.i64_in _ (by omega)
      have q4 : wrap64 ((h : Int) / 2) = (h : Int) / 2 := IntWalk.wrap64_in _ (by omega)
      have q5 : IntKind.i64.wrap ((R : Int) + 1) = (R : Int) + 1 := IntWalk.i64_in _ (by omega)
      have hlost := RKK.lost hres
      have hwon := RKK.won (E := E) (f := f) HX.out.2.1 hl6 hr hres
      have honly := fun i (h1 : a ≤ i) (h2 : i < a + h) hh => hr.only (E := E) (f := f) (i := i) HX.out.1 HX.out.2.1 h1 h2 hh
      obtain ⟨P, hP⟩ : ∃ P, pathF k (p / 2) R = P := ⟨_, rfl⟩
      rw [hP] at hpa hlost hwon honly hhas
      have HWON := Lib.hid hwon
      have HLOST := Lib.hid hlost
      have HONLY := Lib.hid honly
      have HHAS := Lib.hid hhas
      have HPA := Lib.hid hpa
      have HR1 := Lib.hid hr.1
      have hah : a + h ≤ 64 := by omega
      have HS := Lib.hid hs
      have HMO := Lib.hid hm
      have HKO := Lib.hid hk
      clear hr hres hs hpa hlost hwon honly hhas hP hm hk hl6
      go_wp2_with fail
      go_loopw [8] (fun iv wz => RMI k E f g r cap e P a h w iv wz) (fun iv _ => 64 - (intOf iv).toNat)
      case atStart => exact ⟨a, rfl, Nat.le_refl _, by omega, fun hx => by have := HPA.out.1; omega, HMO.out, HKO.out⟩
      case round =>
        obtain ⟨i, rfl, hai, hih, hwi, hm, hk⟩ := hrel
        have HMI := Lib.hid hm
        have HKI := Lib.hid hk
        have HWI2 := Lib.hid hwi
        clear hm hk hwi
        by_cases hlt : i < a + h
        · have d2 : decide ((i : Int) < (a : Int) + h) = true := decide_eq_true (by omega)
          have d2' : decide (i < a + h) = true := decide_eq_true hlt
          have q6 : IntKind.i64.wrap ((i : Int) + 1) = (i : Int) + 1 := IntWalk.i64_in _ (by omega)
          have hi1 : i + 1 < 2 ^ k := by have := HS.out; omega
          have hse := HSE.out _ HMI.out i hi1
          obtain ⟨⟨x, y⟩, hxy⟩ : ∃ s, seatsF k E f i = s := ⟨_, rfl⟩
          rw [hxy] at hse
          have HSI := Lib.hid hse
          have HIL := Lib.hid (And.intro hai hlt)
          by_cases hiP : i = P
          · have hxe : x = e ∨ y = e := by
              have := HHAS.out
              unfold Has at this
              rw [← hiP, hxy] at this
              exact this
            have HWC := Lib.hid (fun w (hM : MS k E f g r cap w) => HWI.out w hM i hi1)
            obtain ⟨W, hW⟩ : ∃ W, winF k E f i = W := ⟨_, rfl⟩
            rw [hW] at HWC
            have hlo := HLOST.out
            rw [← hiP, hW] at hlo
            have HLO := Lib.hid hlo
            have HWW := Lib.hid (show winF k E f P = W by rw [← hiP]; exact hW)
            have hq : (x != (e : Int)) = false ∨ ((x != (e : Int)) = true ∧ (y != (e : Int)) = false) := by
              by_cases hx2 : x = e
              · left; simpa using hx2
              · right; exact ⟨by simpa using hx2, by simpa using hxe.resolve_left hx2⟩
            have hww : W = -1 ∨ (W ≠ -1 ∧ W ≠ e) ∨ W = e := by omega
            clear hse hxy hiP hxe hW hlo hlt hai hih hi1
            rcases hq with t1 | ⟨t1, t2⟩
            all_goals
              rcases hww with hw1 | ⟨hw1, hw2⟩ | hw1
              · have HRS := Lib.hid (HLO.out.1 hw1)
                have b1 : (W == -1) = true := by simpa using hw1
                clear hw1
                go_wp2_with fail
                refine HSI.out.mono ?_
                rintro z w2 ⟨q, rfl, hq, hcell, hk⟩
                have c0 := obj_cell hcell 0
                have c1 := obj_cell hcell 1
                have HM2 := Lib.hid (HMI.out.no hk)
                have HK2 := Lib.hid (HKI.out.and hk)
                clear hcell hk hq
                go_wp2_with fail
                refine (HWC.out _ HM2.out).mono ?_
                rintro z w3 ⟨rfl, hk⟩
                have HK3 := Lib.hid (HK2.out.and hk)
                clear hk
                go_wp2_with fail
                go_ret
                exact ⟨by rw [HRS.out]; rfl, HK3.out⟩
              · have HRS := Lib.hid (HLO.out.2 hw1 hw2)
                have b1 : (W == -1) = false := by simpa using hw1
                have b2 : (W != (e : Int)) = true := by simpa using hw2
                clear hw1 hw2
                go_wp2_with fail
                refine HSI.out.mono ?_
                rintro z w2 ⟨q, rfl, hq, hcell, hk⟩
                have c0 := obj_cell hcell 0
                have c1 := obj_cell hcell 1
                have HM2 := Lib.hid (HMI.out.no hk)
                have HK2 := Lib.hid (HKI.out.and hk)
                clear hcell hk hq
                go_wp2_with fail
                refine (HWC.out _ HM2.out).mono ?_
                rintro z w3 ⟨rfl, hk⟩
                have HK3 := Lib.hid (HK2.out.and hk)
                clear hk
                go_wp2_with fail
                go_ret
                exact ⟨by rw [HRS.out]; rfl, HK3.out⟩
              · have HWE := Lib.hid (show winF k E f P = (e : Int) by rw [HWW.out]; exact hw1)
                have b1 : (W == -1) = false := by rw [hw1]; simp <;> omega
                have b2 : (W != (e : Int)) = false := by simpa using hw1
                clear hw1
                go_wp2_with fail
                refine HSI.out.mono ?_
                rintro z w2 ⟨q, rfl, hq, hcell, hk⟩
                have c0 := obj_cell hcell 0
                have c1 := obj_cell hcell 1
                have HM2 := Lib.hid (HMI.out.no hk)
                have HK2 := Lib.hid (HKI.out.and hk)
                clear hcell hk hq
                go_wp2_with fail
                refine (HWC.out _ HM2.out).mono ?_
                rintro z w3 ⟨rfl, hk⟩
                have HM3 := Lib.hid (HM2.out.no hk)
                have HK3 := Lib.hid (HK2.out.and hk)
                clear hk
                go_wp2_with fail
                have := HIL.out
                exact ⟨⟨i + 1, by go_num, by omega, by omega, fun _ => HWE.out, HM3.out, HK3.out⟩, by simp [intOf]; omega⟩
          · have hnx : (x != (e : Int)) = true ∧ (y != (e : Int)) = true := by
              have hno : ¬ Has k E f e i := fun hh => hiP (HONLY.out i hai hlt hh)
              unfold Has at hno
              rw [hxy] at hno
              simpa [not_or] using hno
            obtain ⟨t1, t2⟩ := hnx
            have HNP := Lib.hid hiP
            clear hse hxy hiP hlt hai hih hi1
            go_wp2_with fail
            refine HSI.out.mono ?_
            rintro z w2 ⟨q, rfl, hq, hcell, hk⟩
            have c0 := obj_cell hcell 0
            have c1 := obj_cell hcell 1
            have HM2 := Lib.hid (HMI.out.no hk)
            have HK2 := Lib.hid (HKI.out.and hk)
            clear hcell hk hq
            go_wp2_with fail
            have := HIL.out
            exact ⟨⟨i + 1, by go_num, by omega, by omega, fun hx => HWI2.out (by have := HNP.out; omega), HM2.out, HK2.out⟩, by simp [intOf]; omega⟩
        · have d2 : decide ((i : Int) < (a : Int) + h) = false := decide_eq_false (by omega)
          have d2' : decide (i < a + h) = false := decide_eq_false hlt
          have HRN := Lib.hid (HWON.out (HWI2.out (by have := HPA.out.2; omega)))
          clear hlt hai hih
          go_wp2_with fail
          have hR1 := HR1.out
          exact ⟨⟨a + h, h / 2, R + 1, by go_num, by go_num, by go_num, HRN.out, by omega, HMI.out, HKI.out⟩, by simp [intOf] <;> omega⟩
    · have d1 : decide (0 < h) = false := decide_eq_false (by omega)
      have d1' : decide (0 < (h : Int)) = false := decide_eq_false (by omega)
      have HRS := Lib.hid (show (R : Int) = Res by rw [hres, hRe])
      have HKO := Lib.hid hk
      clear hRe h0 ha64 hres hk hm hRk
      go_wp2_with fail
      go_ret
      exact ⟨by rw [← HRS.out]; rfl, HKO.out⟩
end Go.Proofs.YtphlpclhmodekaaDoor
