/-
  Pool: the four kinds of rules.
-/
import Derived.Test.YtclgoilfclmibaaGreatDoorWalkA
import Derived.BigQuiet
set_option linter.unusedVariables false
set_option linter.unusedSimpArgs false
namespace Go.Proofs.YtclgoilfclmibaaGreatDoor
open Go.RowKit Go.Zn
attribute [local go_sem] Oper.semAt_some

/-- an effect as a value -/
def effV (e : Eff) : Value := .agg #[.int .i64 e.code, .int .i64 e.target, .int .i64 e.n, .int .i64 e.m, .int .i64 e.col]
theorem bare_any {K : List Int} (hK : K.length ≤ 100) (e : Eff) {w : World} {B : Nat → Prop} {v : Value} (hv : Rd w B 1 v K.length (ivals K)) : Calls Tryz.prog 126 #[v, effV e] w fun x w' => x = .returned (.bool (bareF K e)) ∧ Kept No w w' := by
  obtain ⟨code, target, n, m, col⟩ := e
  have HC := Lib.hid (fun w' (hk : Kept No w w') => contains_any hK target (hv.kept hk fun _ _ _ => not_no _))
  have hR : bareF K ⟨code, target, n, m, col⟩ = (K.contains target && (n == 0) && (m == 0) && (col == 0)) := rfl
  obtain ⟨c, hc⟩ : ∃ c, K.contains target = c := ⟨_, rfl⟩
  rw [hc] at HC hR
  have HK0 := Lib.hid (Kept.refl No w)
  unfold effV
  clear hv hK hc
  cases c
  · have HR := Lib.hid hR
    clear hR
    go_enter Tryz.func126, Tryz.ntmps126
    go_wp2_with fail
    refine (HC.out _ (HK0.out.alloc _)).mono ?_
    rintro e w1 ⟨rfl, rfl⟩
    go_wp2_with fail
    go_ret
    exact ⟨by rw [HR.out]; rfl, HK0.out.alloc _⟩
  · obtain ⟨b1, h1⟩ : ∃ b, (n == 0) = b := ⟨_, rfl⟩
    obtain ⟨b2, h2⟩ : ∃ b, (m == 0) = b := ⟨_, rfl⟩
    obtain ⟨b3, h3⟩ : ∃ b, (col == 0) = b := ⟨_, rfl⟩
    rw [h1, h2, h3] at hR
    have HR := Lib.hid hR
    clear hR
    cases b1
    · go_enter Tryz.func126, Tryz.ntmps126
      go_wp2_with fail
      refine (HC.out _ (HK0.out.alloc _)).mono ?_
      rintro e w1 ⟨rfl, rfl⟩
      go_wp2_with fail
      go_ret
      exact ⟨by rw [HR.out]; rfl, HK0.out.alloc _⟩
    · cases b2
      · go_enter Tryz.func126, Tryz.ntmps126
        go_wp2_with fail
        refine (HC.out _ (HK0.out.alloc _)).mono ?_
        rintro e w1 ⟨rfl, rfl⟩
        go_wp2_with fail
        go_ret
        exact ⟨by rw [HR.out]; rfl, HK0.out.alloc _⟩
      · go_enter Tryz.func126, Tryz.ntmps126
        go_wp2_with fail
        refine (HC.out _ (HK0.out.alloc _)).mono ?_
        rintro e w1 ⟨rfl, rfl⟩
        go_wp2_with fail
        go_ret
        exact ⟨by rw [HR.out]; rfl, HK0.out.alloc _⟩
/-- what a counted rule lies as -/
theorem counted_any {K : List Int} (hK : K.length ≤ 100) {most : Int} (hm : 1 ≤ most) (e : Eff) {w : World} {B : Nat → Prop} {v : Value} (hv : Rd w B 1 v K.length (ivals K)) : Calls Tryz.prog 129 #[.agg #[v, .int .i64 most], effV e] w fun x w' => x = .returned (.bool (countF K most e)) ∧ Kept No w w' := by
  obtain ⟨code, target, n, m, col⟩ := e
  have HW := Lib.hid (fun w' => ewithin_any n (least := 1) (most := most) (by omega) hm w')
  have HC := Lib.hid (fun w' (hk : Kept No w w') => (show Calls Tryz.prog 126 #[v, .agg #[.int .i64 code, .int .i64 target, .int .i64 0, .int .i64 m, .int .i64 col]] w' fun x w2 => x = .returned (.bool (bareF K ⟨code, target, 0, m, col⟩)) ∧ Kept No w' w2 from bare_any hK ⟨code, target, 0, m, col⟩ (hv.kept hk fun _ _ _ => not_no _)))
  have hR : countF K most ⟨code, target, n, m, col⟩ = (inB n 1 most && bareF K ⟨code, target, 0, m, col⟩) := rfl
  obtain ⟨c, hc⟩ : ∃ c, inB n 1 most = c := ⟨_, rfl⟩
  obtain ⟨d, hd⟩ : ∃ d, bareF K ⟨code, target, 0, m, col⟩ = d := ⟨_, rfl⟩
  rw [hc, hd] at hR
  rw [hc] at HW
  rw [hd] at HC
  obtain ⟨ad, cap, rfl⟩ := rd_slice hv
  obtain ⟨k, hk⟩ : ∃ k, K.length = k := ⟨_, rfl⟩
  rw [hk] at HC
  rw [hk]
  have HK0 := Lib.hid (Kept.refl No w)
  have HR := Lib.hid hR
  unfold effV
  clear hv hK hc hd hR hm hk
  cases c
  · go_enter Tryz.func129, Tryz.ntmps129
    go_wp2_with fail
    refine (HW.out _).mono ?_
    rintro e w1 ⟨rfl, rfl⟩
    go_wp2_with fail
    go_ret
    exact ⟨by rw [HR.out]; rfl, (HK0.out.alloc _).alloc _⟩
  · go_enter Tryz.func129, Tryz.ntmps129
    go_wp2_with fail
    refine (HW.out _).mono ?_
    rintro e w1 ⟨rfl, rfl⟩
    go_wp2_with fail
    refine (HC.out _ ((HK0.out.alloc _).alloc _)).mono ?_
    rintro e w1 ⟨rfl, hk⟩
    have HK := Lib.hid (((HK0.out.alloc _).alloc _).and hk)
    clear hk
    go_wp2_with fail
    go_ret
    exact ⟨by rw [HR.out]; rfl, HK.out⟩
/-- a paired rule -/
theorem paired_any {K : List Int} (hK : K.length ≤ 100) {least : Int} (h0 : 0 ≤ least) (hm : least ≤ 9) (e : Eff) {w : World} {B : Nat → Prop} {v : Value} (hv : Rd w B 1 v K.length (ivals K)) : Calls Tryz.prog 132 #[.agg #[v, .int .i64 least], effV e] w fun x w' => x = .returned (.bool (pairF K least e)) ∧ Kept No w w' := by
  obtain ⟨code, target, n, m, col⟩ := e
  have HW := Lib.hid (fun w' => ewithin_any n (least := 0) (most := 9) (by omega) (by omega) w')
  have HW2 := Lib.hid (fun w' => ewithin_any m (least := least) (most := 9) h0 hm w')
  have HC := Lib.hid (fun w' (hk : Kept No w w') => (show Calls Tryz.prog 126 #[v, .agg #[.int .i64 code, .int .i64 target, .int .i64 0, .int .i64 0, .int .i64 col]] w' fun x w2 => x = .returned (.bool (bareF K ⟨code, target, 0, 0, col⟩)) ∧ Kept No w' w2 from bare_any hK ⟨code, target, 0, 0, col⟩ (hv.kept hk fun _ _ _ => not_no _)))
  have hR : pairF K least ⟨code, target, n, m, col⟩ = (inB n 0 9 && inB m least 9 && decide (0 < n + m) && bareF K ⟨code, target, 0, 0, col⟩) := rfl
  obtain ⟨d, hd⟩ : ∃ d, bareF K ⟨code, target, 0, 0, col⟩ = d := ⟨_, rfl⟩
  rw [hd] at hR HC
  obtain ⟨ad, cap, rfl⟩ := rd_slice hv
  obtain ⟨k, hk⟩ : ∃ k, K.length = k := ⟨_, rfl⟩
  rw [hk] at HC
  rw [hk]
  have HK0 := Lib.hid (Kept.refl No w)
  unfold effV
  have hin : ∀ a b c : Int, inB a b c = true → b ≤ a ∧ a ≤ c := fun a b c h => by simpa [inB] using h
  obtain ⟨c, hc⟩ : ∃ c, inB n 0 9 = c := ⟨_, rfl⟩
  obtain ⟨c2, hc2⟩ : ∃ c, inB m least 9 = c := ⟨_, rfl⟩
  cases c
  · rw [hc] at hR HW
    have HR := Lib.hid hR
    clear hv hK hc hd hR hm hk h0 hin hc2
    go_enter Tryz.func132, Tryz.ntmps132
    go_wp2_with fail
    go_quiet (fail)
    go_wp2_with fail
    refine (HW.out _).mono ?_
    rintro e w1 ⟨rfl, rfl⟩
    go_wp2_with fail
    go_ret
    exact ⟨by rw [HR.out]; rfl, ((((HK0.out.alloc _).alloc _).drewN _).put (by simp) _).put (by simp) _⟩
  · cases c2
    · rw [hc] at hR HW
      rw [hc2] at hR HW2
      have HR := Lib.hid hR
      clear hv hK hc hd hR hm hk h0 hin hc2
      go_enter Tryz.func132, Tryz.ntmps132
      go_wp2_with fail
      go_quiet (fail)
      go_wp2_with fail
      refine (HW.out _).mono ?_
      rintro e w1 ⟨rfl, rfl⟩
      go_wp2_with fail
      refine (HW2.out _).mono ?_
      rintro e w1 ⟨rfl, rfl⟩
      go_wp2_with fail
      go_ret
      exact ⟨by rw [HR.out]; rfl, ((((HK0.out.alloc _).alloc _).drewN _).put (by simp) _).put (by simp) _⟩
    · have r1 := hin _ _ _ hc
      have r2 := hin _ _ _ hc2
      have q1 : IntKind.i64.wrap (n + m) = n + m := IntWalk.i64_in _ (by omega)
      rw [hc] at hR HW
      rw [hc2] at hR HW2
      obtain ⟨p, hp⟩ : ∃ p, decide (0 < n + m) = p := ⟨_, rfl⟩
      rw [hp] at hR
      have HR := Lib.hid hR
      clear hv hK hc hd hR hm hk h0 hin hc2 r1 r2
      cases p
      · go_enter Tryz.func132, Tryz.ntmps132
        go_wp2_with fail
        go_quiet (fail)
        go_wp2_with fail
        refine (HW.out _).mono ?_
        rintro e w1 ⟨rfl, rfl⟩
        go_wp2_with fail
        refine (HW2.out _).mono ?_
        rintro e w1 ⟨rfl, rfl⟩
        go_wp2_with fail
        go_ret
        exact ⟨by rw [HR.out]; rfl, ((((HK0.out.alloc _).alloc _).drewN _).put (by simp) _).put (by simp) _⟩
      · go_enter Tryz.func132, Tryz.ntmps132
        go_wp2_with fail
        go_quiet (fail)
        go_wp2_with fail
        refine (HW.out _).mono ?_
        rintro e w1 ⟨rfl, rfl⟩
        go_wp2_with fail
        refine (HW2.out _).mono ?_
        rintro e w1 ⟨rfl, rfl⟩
        go_wp2_with fail
        refine (HC.out _ (((((HK0.out.alloc _).alloc _).drewN _).put (by simp) _).put (by simp) _)).mono ?_
        rintro e w1 ⟨rfl, hk⟩
        have HK := Lib.hid (Kept.and (((((HK0.out.alloc _).alloc _).drewN _).put (by simp) _).put (by simp) _) hk)
        clear hk
        go_wp2_with fail
        go_ret
        exact ⟨by rw [HR.out]; rfl, HK.out⟩
/-- a coloured rule -/
theorem coloured_any {K : List Int} (hK : K.length ≤ 100) {most : Int} (hm : 1 ≤ most) (e : Eff) {w : World} {B : Nat → Prop} {v : Value} (hv : Rd w B 1 v K.length (ivals K)) : Calls Tryz.prog 133 #[.agg #[v, .int .i64 most], effV e] w fun x w' => x = .returned (.bool (colF K most e)) ∧ Kept No w w' := by
  obtain ⟨code, target, n, m, col⟩ := e
  have HW := Lib.hid (fun w' => ewithin_any col (least := 0) (most := 3) (by omega) (by omega) w')
  have HC := Lib.hid (fun w' (hk : Kept No w w') => (show Calls Tryz.prog 129 #[.agg #[v, .int .i64 most], .agg #[.int .i64 code, .int .i64 target, .int .i64 n, .int .i64 m, .int .i64 0]] w' fun x w2 => x = .returned (.bool (countF K most ⟨code, target, n, m, 0⟩)) ∧ Kept No w' w2 from counted_any hK hm ⟨code, target, n, m, 0⟩ (hv.kept hk fun _ _ _ => not_no _)))
  have hR : colF K most ⟨code, target, n, m, col⟩ = (inB col 0 3 && countF K most ⟨code, target, n, m, 0⟩) := rfl
  obtain ⟨c, hc⟩ : ∃ c, inB col 0 3 = c := ⟨_, rfl⟩
  obtain ⟨d, hd⟩ : ∃ d, countF K most ⟨code, target, n, m, 0⟩ = d := ⟨_, rfl⟩
  rw [hc, hd] at hR
  rw [hc] at HW
  rw [hd] at HC
  obtain ⟨ad, cap, rfl⟩ := rd_slice hv
  obtain ⟨k, hk⟩ : ∃ k, K.length = k := ⟨_, rfl⟩
  rw [hk] at HC
  rw [hk]
  have HK0 := Lib.hid (Kept.refl No w)
  have HR := Lib.hid hR
  unfold effV
  clear hv hK hc hd hR hm hk
  cases c
  · go_enter Tryz.func133, Tryz.ntmps133
    go_wp2_with fail
    refine (HW.out _).mono ?_
    rintro e w1 ⟨rfl, rfl⟩
    go_wp2_with fail
    go_ret
    exact ⟨by rw [HR.out]; rfl, (HK0.out.alloc _).alloc _⟩
  · go_enter Tryz.func133, Tryz.ntmps133
    go_wp2_with fail
    refine (HW.out _).mono ?_
    rintro e w1 ⟨rfl, rfl⟩
    go_wp2_with fail
    refine (HC.out _ ((HK0.out.alloc _).alloc _)).mono ?_
    rintro e w1 ⟨rfl, hk⟩
    have HK := Lib.hid (((HK0.out.alloc _).alloc _).and hk)
    clear hk
    go_wp2_with fail
    go_ret
    exact ⟨by rw [HR.out]; rfl, HK.out⟩
end Go.Proofs.YtclgoilfclmibaaGreatDoor
