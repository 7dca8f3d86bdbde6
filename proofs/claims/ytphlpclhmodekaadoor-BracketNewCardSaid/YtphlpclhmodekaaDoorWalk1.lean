/-
  Bracket: the walk of BracketNew.
-/
import Derived.Test.YtphlpclhmodekaaDoorWalkZ
set_option linter.unusedVariables false
set_option linter.unusedSimpArgs false
namespace Go.Proofs.YtphlpclhmodekaaDoor
open Go.RowKit Go.Zn
attribute [local go_sem] Oper.semAt_some

set_option maxRecDepth 100000 in
theorem newl_out {E : Int} (hE : E < 2 ∨ 64 < E) (w : World) : Calls Tryd.prog 4 #[.int .i64 E] w fun e w' => e = .returned (.bool true) ∧ Kept No w w' := by
  have HN := Lib.hid (new_out hE w)
  have HKN := Lib.hid (known_any w)
  by_cases h1 : E < 2
  · have q1 : decide (E < 2) = true := decide_eq_true h1
    clear h1 hE
    go_enter Tryd.func4, Tryd.ntmps4
    go_wp2_with fail
    refine HN.out.mono ?_
    rintro e w1 ⟨rfl, hk⟩
    have hk := hk.symm
    subst hk
    go_wp2_with fail
    refine HKN.out.mono ?_
    rintro e w1 ⟨rfl, hk⟩
    have HK := Lib.hid hk
    clear hk
    go_wp2_with fail
    go_ret
    exact ⟨rfl, HK.out⟩
  · have q1 : decide (E < 2) = false := decide_eq_false h1
    have q2 : decide (64 < E) = true := decide_eq_true (by omega)
    clear h1 hE
    go_enter Tryd.func4, Tryd.ntmps4
    go_wp2_with fail
    refine HN.out.mono ?_
    rintro e w1 ⟨rfl, hk⟩
    have hk := hk.symm
    subst hk
    go_wp2_with fail
    refine HKN.out.mono ?_
    rintro e w1 ⟨rfl, hk⟩
    have HK := Lib.hid hk
    clear hk
    go_wp2_with fail
    go_ret
    exact ⟨rfl, HK.out⟩
set_option maxRecDepth 100000 in
theorem newl_in {k E : Nat} (hz : Sz k E) (w : World) : Calls Tryd.prog 4 #[.int .i64 (E : Nat)] w fun e w' => e = .returned (.bool true) ∧ Kept No w w' := by
  have hE2 : 2 ≤ E := by have := hz.lo; have := pow_le' hz.one; omega
  have hE64 : E ≤ 64 := by have := hz.hi; have := hz.le; omega
  have q1 : decide ((E : Int) < 2) = false := decide_eq_false (by omega)
  have q2 : decide (64 < (E : Int)) = false := decide_eq_false (by omega)
  have HN := Lib.hid (new_in hz w)
  have HF := Lib.hid (fun w => fresh_any hz w)
  clear hz hE2 hE64
  go_enter Tryd.func4, Tryd.ntmps4
  go_wp2_with fail
  refine HN.out.mono ?_
  rintro e w1 ⟨b, rfl, hb, hbs, hk⟩
  have HB := Lib.hid hbs
  have HK := Lib.hid hk
  clear hb hbs hk
  go_wp2_with fail
  refine (HF.out _).mono ?_
  rintro e w2 ⟨g, r, cap, rfl, hg, hr, hms, hk⟩
  have HA := Lib.hid (show AS k E (freshF k E) b g r cap w2 from ⟨HB.out.to hk (not_no _), hms⟩)
  have HK2 := Lib.hid (HK.out.and hk)
  clear hg hr hms hk
  go_wp2_with fail
  refine (alike_any HA.out).mono ?_
  rintro e w3 ⟨rfl, hk⟩
  have HK3 := Lib.hid (HK2.out.and hk)
  clear hk
  go_wp2_with fail
  refine (known_any _).mono ?_
  rintro e w4 ⟨rfl, hk⟩
  have HK4 := Lib.hid (HK3.out.and hk)
  clear hk
  go_wp2_with fail
  go_ret
  exact ⟨rfl, HK4.out⟩
end Go.Proofs.YtphlpclhmodekaaDoor
