/-
  Bracket: Rank.
-/
import Derived.Test.YtphlpclhmodekaaDoorWalkH
set_option linter.unusedVariables false
set_option linter.unusedSimpArgs false
namespace Go.Proofs.YtphlpclhmodekaaDoor
open Go.RowKit Go.Zn
attribute [local go_sem] Oper.semAt_some

theorem rank_out {k E : Nat} {f : Nat → Nat} {b : Nat} {w : World} (hB : BS k E f b w) {e : Int} (he : e < 0 ∨ (E : Int) ≤ e) : Calls Tryd.prog 16 #[.pointer (some ⟨b, 0, none⟩), .int .i64 e] w fun x w' => x = .returned (.tuple #[.int .i64 0, .int .i64 9]) ∧ w' = w := by
  have HN := Lib.hid (fun w (hB : BS k E f b w) => none_no hB)
  have c0 := hB.ent
  have HB := Lib.hid hB
  clear hB
  by_cases hneg : e < 0
  · have q1 : decide (e < 0) = true := decide_eq_true hneg
    clear hneg he
    go_enter Tryd.func16, Tryd.ntmps16
    go_wp2_with fail
    refine (HN.out _ HB.out).mono ?_
    rintro x w1 ⟨rfl, hk⟩
    have hk := hk.symm
    subst hk
    go_wp2_with fail
    go_ret2
    exact ⟨rfl, rfl⟩
  · have q1 : decide (e < 0) = false := decide_eq_false hneg
    have q2 : decide ((E : Int) ≤ e) = true := decide_eq_true (by omega)
    clear hneg he
    go_enter Tryd.func16, Tryd.ntmps16
    go_wp2_with fail
    refine (HN.out _ HB.out).mono ?_
    rintro x w1 ⟨rfl, hk⟩
    have hk := hk.symm
    subst hk
    go_wp2_with fail
    go_ret2
    exact ⟨rfl, rfl⟩

set_option maxRecDepth 100000 in
theorem rank_in {k E : Nat} {f : Nat → Nat} {b : Nat} {w : World} (hB : BS k E f b w) {e p : Nat} (he : e < E) (hp : seedK k p = e) (pl : p < 2 ^ k) : Calls Tryd.prog 16 #[.pointer (some ⟨b, 0, none⟩), .int .i64 (e : Nat)] w fun x w' => x = .returned (.tuple #[.int .i64 (rankF k E f e p), .int .i64 0]) ∧ w' = w := by
  have hle := hB.z.le
  have hk1 := hB.z.one
  obtain ⟨H, hH, hH1, _, hHk⟩ := hB.z.pow
  obtain ⟨hh2, hhas⟩ := has_home f hp pl hk1 he
  have honly := fun m (h1 : 2 ^ k ≤ m + 2 ^ (k - 0)) (h2 : m + 2 ^ (k - 0 - 1) < 2 ^ k) (h : Has k E f e m) => has_only (R := 0) hp pl hk1 hk1 h1 h2 h
  obtain ⟨h, hh⟩ : ∃ h, p / 2 = h := ⟨_, rfl⟩
  obtain ⟨R, hR⟩ : ∃ R, rankF k E f e p = R := ⟨_, rfl⟩
  rw [hR]
  unfold rankF at hR
  rw [hh] at honly hhas hh2 hR
  simp only [pathF] at honly
  have HN := Lib.hid (fun w (hB : BS k E f b w) => none_no hB)
  have HX := Lib.hid (fun w (hB : BS k E f b w) m (hm : m + 1 < 2 ^ k) => next_any hB hm)
  have HS := Lib.hid (fun w (hB : BS k E f b w) m (hm : m + 1 < 2 ^ k) => seats_any hB hm)
  have HW := Lib.hid (fun w (hB : BS k E f b w) m (hm : m + 1 < 2 ^ k) => winner_any hB hm)
  have hpl : ∀ m, m ≤ h → m + 1 < 2 ^ k := fun m hm => by omega
  have hfirst : ∀ m, m ≤ h → Has k E f e m → m = h := fun m hm hx => honly m (by simp) (by rw [Nat.sub_zero, hHk]; omega) hx
  have HF := Lib.hid hfirst
  have HPL := Lib.hid hpl
  have HR := Lib.hid hR
  have HHAS := Lib.hid hhas
  have HH2 := Lib.hid hh2
  have c0 := hB.ent
  have c1 := hB.size
  rw [hH] at c1
  have HB := Lib.hid hB
  have HH := Lib.hid hH
  have HNX := Lib.hid (show ∀ m, m + 2 < 2 ^ k → nextF k m + 1 < 2 ^ k ∧ m + 1 ≤ nextF k m from fun m hm => by unfold nextF; omega)
  have q1 : decide (E ≤ e) = false := decide_eq_false (by omega)
  have q3 : IntKind.i64.wrap (2 * (H : Int) - 2) = 2 * (H : Int) - 2 := IntWalk.i64_in _ (by omega)
  have h64 : h ≤ 64 := by omega
  have HS0 := Lib.hid (HS.out w hB 0 (hpl 0 (Nat.zero_le _)))
  have hH64 : H ≤ 32 := by omega
  clear hpl hfirst hR hhas hh2 hB hH honly hh hle hHk he hp pl hk1
  go_enter Tryd.func16, Tryd.ntmps16
  go_wp2_with fail
  refine (HN.out _ HB.out).mono ?_
  rintro x w1 ⟨rfl, hk⟩
  have hk := hk.symm
  subst hk
  go_wp2_with fail
  refine HS0.out.mono ?_
  rintro x w1 ⟨rfl, hk⟩
  have hk := hk.symm
  subst hk
  go_wp2_with fail
  go_loopw [6, 7, 8] (fun mv xv yv wr => ∃ m : Nat, mv = .int .i64 (m : Nat) ∧ xv = .int .i64 (seatsF k E f m).1 ∧ yv = .int .i64 (seatsF k E f m).2 ∧ m ≤ h ∧ wr = w) (fun mv _ _ _ => h - (intOf mv).toNat)
  case atStart => exact ⟨0, rfl, rfl, rfl, Nat.zero_le _, rfl⟩
  case round =>
    obtain ⟨m, rfl, rfl, rfl, hmh, rfl⟩ := hrel
    by_cases hx : Has k E f e m
    · have hmeq := HF.out m hmh hx
      subst hmeq
      obtain ⟨⟨x, y⟩, hxy⟩ : ∃ s, seatsF k E f m = s := ⟨_, rfl⟩
      have hx2 : x = e ∨ y = e := by unfold Has at hx; rw [hxy] at hx; exact hx
      rw [hxy]
      have HM := Lib.hid (HPL.out m (Nat.le_refl _))
      clear hx hxy hmh
      have hq : (x != (e : Int)) = false ∨ ((x != (e : Int)) = true ∧ (y != (e : Int)) = false) := by
        by_cases hxe : x = e
        · left; simpa using hxe
        · right; exact ⟨by simpa using hxe, by simpa using hx2.resolve_left hxe⟩
      clear hx2
      rcases hq with q5 | ⟨q5, q6⟩
      all_goals
        go_wp2_with fail
        go_loopw [6, 9] (fun mv rv wz => ∃ j r : Nat, mv = .int .i64 (j : Nat) ∧ rv = .int .i64 (r : Nat) ∧ r ≤ j ∧ j + 1 < 2 ^ k ∧ rankFrom k E f e j r = R ∧ wz = wr) (fun mv _ _ => 64 - (intOf mv).toNat)
        case atStart => exact ⟨m, 0, rfl, rfl, Nat.zero_le _, HM.out, HR.out, rfl⟩
        case round =>
          obtain ⟨j, r, rfl, rfl, hrj, hj, hrk, rfl⟩ := hrel
          have HWJ := Lib.hid (HW.out wr HB.out j hj)
          have hj64 : j + 1 < 2 * H := by have := HH.out; omega
          have hun := hrk
          rw [rankFrom] at hun
          obtain ⟨W, hW⟩ : ∃ W, winF k E f j = W := ⟨_, rfl⟩
          rw [hW] at HWJ hun
          have HXJ := Lib.hid (HX.out wr HB.out j hj)
          have HJ := Lib.hid hj
          clear hrk hj hW
          by_cases a1 : W = -1
          · rw [if_pos a1] at hun
            have HU := Lib.hid hun
            have b1 : (W == -1) = true := by simpa using a1
            clear hun a1
            go_wp2_with fail
            refine HWJ.out.mono ?_
            rintro x w1 ⟨rfl, hk⟩
            have hk := hk.symm
            subst hk
            go_wp2_with fail
            go_ret2
            exact ⟨by rw [← HU.out]; rfl, rfl⟩
          · rw [if_neg a1] at hun
            have b1 : (W == -1) = false := by simpa using a1
            clear a1
            by_cases a2 : W = (e : Int)
            · rw [if_neg (by simpa using a2)] at hun
              have b2 : (W != (e : Int)) = false := by simpa using a2
              clear a2
              by_cases a3 : j + 2 < 2 ^ k
              · rw [dif_pos a3] at hun
                have HNJ := Lib.hid (HNX.out j a3)
                have b3 : ((j : Int) == 2 * (H : Int) - 2) = false := by have := HH.out; simp; omega
                obtain ⟨n, hn⟩ : ∃ n, nextF k j = n := ⟨_, rfl⟩
                rw [hn] at HNJ HXJ hun
                have HU := Lib.hid hun
                have b4 : IntKind.i64.wrap ((r : Int) + 1) = (r : Int) + 1 := IntWalk.i64_in _ (by omega)
                have HJB := Lib.hid (And.intro hrj hj64)
                clear hun a3 hn hrj
                go_wp2_with fail
                refine HWJ.out.mono ?_
                rintro x w1 ⟨rfl, hk⟩
                have hk := hk.symm
                subst hk
                go_wp2_with fail
                refine HXJ.out.mono ?_
                rintro x w1 ⟨rfl, hk⟩
                have hk := hk.symm
                subst hk
                go_wp2_with fail
                have h1 := HNJ.out
                have h2 := HJB.out
                exact ⟨⟨n, r + 1, rfl, by go_num, by omega, h1.1, HU.out, trivial⟩, by simp [intOf]; omega⟩
              · rw [dif_neg a3] at hun
                have b3 : ((j : Int) == 2 * (H : Int) - 2) = true := by have := HH.out; simp; omega
                have HU := Lib.hid hun
                have b4 : IntKind.i64.wrap ((r : Int) + 1) = (r : Int) + 1 := IntWalk.i64_in _ (by omega)
                clear hun a3
                go_wp2_with fail
                refine HWJ.out.mono ?_
                rintro x w1 ⟨rfl, hk⟩
                have hk := hk.symm
                subst hk
                go_wp2_with fail
                go_ret2
                exact ⟨by rw [← HU.out]; rfl, rfl⟩
            · rw [if_pos a2] at hun
              have b2 : (W != (e : Int)) = true := by simpa using a2
              have HU := Lib.hid hun
              clear hun a2
              go_wp2_with fail
              refine HWJ.out.mono ?_
              rintro x w1 ⟨rfl, hk⟩
              have hk := hk.symm
              subst hk
              go_wp2_with fail
              go_ret2
              exact ⟨by rw [← HU.out]; rfl, rfl⟩
    · have hlt : m < h := by
        refine Nat.lt_of_le_of_ne hmh fun he => hx ?_
        rw [he]; exact HHAS.out
      have HSN := Lib.hid (show Calls Tryd.prog 29 #[.pointer (some ⟨b, 0, none⟩), .int .i64 ((m : Int) + 1)] wr fun e w' => e = .returned (.tuple #[.int .i64 (seatsF k E f (m + 1)).1, .int .i64 (seatsF k E f (m + 1)).2]) ∧ w' = wr from HS.out wr HB.out (m + 1) (HPL.out _ hlt))
      obtain ⟨⟨x, y⟩, hxy⟩ : ∃ s, seatsF k E f m = s := ⟨_, rfl⟩
      have hx2 : (x != (e : Int)) = true ∧ (y != (e : Int)) = true := by unfold Has at hx; rw [hxy] at hx; simpa [not_or] using hx
      obtain ⟨hx3, hx4⟩ := hx2
      rw [hxy]
      have q9 : IntKind.i64.wrap ((m : Int) + 1) = (m : Int) + 1 := IntWalk.i64_in _ (by omega)
      have HLT := Lib.hid hlt
      clear hx hxy hmh hlt
      go_wp2_with fail
      refine HSN.out.mono ?_
      rintro x w1 ⟨rfl, hk⟩
      have hk := hk.symm
      subst hk
      go_wp2_with fail
      have := HLT.out
      exact ⟨⟨m + 1, by go_num, rfl, rfl, by omega, trivial⟩, by simp [intOf]; omega⟩
end Go.Proofs.YtphlpclhmodekaaDoor
