/-
  Mana: the walk of ManaParses.
-/
import Derived.Test.YtogfjegedfaekaaDoorWalkX
set_option linter.unusedVariables false
set_option linter.unusedSimpArgs false
namespace Go.Proofs.YtogfjegedfaekaaDoor
open Go.RowKit Go.Zn Go.Zm
attribute [local go_sem] Oper.semAt_some

theorem k_good {l : List UInt8} {p q r t u : Int} (h : pOk l = true) (hc : pC l = ⟨⟨p, q, r, t⟩, u⟩) (W : World) (hE : Errs W) (hl : l.length ≤ maxLen) : Calls Tryd.prog 24 #[.string (strOf l), .agg #[.int .i64 p, .int .i64 q, .int .i64 r, .int .i64 t, .int .i64 u], .int .i64 0] W fun e w' => e = .returned (.bool true) ∧ Kept No W w' :=
  (parses_any l p q r t u 0 W hl hE).mono fun e w' ⟨he, hk⟩ => ⟨he.trans (by
    rw [hc, q5_self]
    unfold pE
    rw [h]
    rfl), hk⟩
set_option maxRecDepth 100000 in
set_option maxHeartbeats 1000000 in
theorem walk_parses (l : List UInt8) (w : World) (hl : l.length ≤ maxLen) (hE : Errs w) : Calls Tryd.prog 5 #[.string (strOf l)] w fun e w' => e = .returned (.bool true) ∧ Kept No w w' := by
  have hsz := strOf_size l
  have HL := Lib.hid hl
  have HE := Lib.hid hE
  unfold maxLen at hl
  clear hE
  by_cases h : 200 < l.length
  · go_enter Tryd.func5, Tryd.ntmps5
    go_wp2_with fail
    refine (known_any _ HE.out).mono ?_
    rintro e w2 ⟨rfl, hk⟩
    have HK := Lib.hid hk
    clear hk
    go_wp2_with fail
    go_ret
    exact ⟨rfl, HK.out⟩
  · have HR := Lib.hid (fun W => rparse_any l W (by omega))
    obtain ⟨⟨⟨p, q, r, t⟩, u⟩, hc⟩ : ∃ c, pC l = c := ⟨_, rfl⟩
    rw [hc] at HR
    cases hp : pOk l
    · rw [hp] at HR
      have HB := Lib.hid (fun W hE => k_bad hp W hE HL.out)
      clear hp hc
      go_enter Tryd.func5, Tryd.ntmps5
      go_wp2_with fail
      refine (HR.out _).mono ?_
      rintro e w2 ⟨rfl, hk⟩
      have HK2 := Lib.hid (hk.alloc (.cells #[.int .i64 p, .int .i64 q, .int .i64 r, .int .i64 t, .int .i64 u] 25))
      clear hk
      go_wp2_with fail
      refine (HB.out _ (HE.out.kept HK2.out)).mono ?_
      rintro e w3 ⟨rfl, hk⟩
      have HK3 := Lib.hid (HK2.out.and hk)
      clear hk
      go_wp2_with fail
      refine (known_any _ (HE.out.kept HK3.out)).mono ?_
      rintro e w4 ⟨rfl, hk⟩
      have HK4 := Lib.hid (HK3.out.and hk)
      clear hk
      go_wp2_with fail
      go_ret
      exact ⟨rfl, HK4.out⟩
    · rw [hp] at HR
      have HB := Lib.hid (fun W hE => k_good hp hc W hE HL.out)
      clear hp hc
      go_enter Tryd.func5, Tryd.ntmps5
      go_wp2_with fail
      refine (HR.out _).mono ?_
      rintro e w2 ⟨rfl, hk⟩
      obtain ⟨w3, hw3⟩ : ∃ w3, w2.alloc (.cells #[.int .i64 p, .int .i64 q, .int .i64 r, .int .i64 t, .int .i64 u] 25) = w3 := ⟨_, rfl⟩
      have hx := heap_alloc_new w2 (.cells #[.int .i64 p, .int .i64 q, .int .i64 r, .int .i64 t, .int .i64 u] 25)
      rw [hw3] at hx
      have x0 := obj_cell hx 0
      have x1 := obj_cell hx 1
      have x2 := obj_cell hx 2
      have x3 := obj_cell hx 3
      have x4 := obj_cell hx 4
      have HK2 := Lib.hid (show Kept No w w3 by rw [← hw3]; exact hk.alloc _)
      clear hk hx
      go_wp2_with fail
      refine (HB.out _ (HE.out.kept HK2.out)).mono ?_
      rintro e w4 ⟨rfl, hk⟩
      have HK3 := Lib.hid (HK2.out.and hk)
      clear hk
      go_wp2_with fail
      refine (known_any _ (HE.out.kept HK3.out)).mono ?_
      rintro e w5 ⟨rfl, hk⟩
      have HK4 := Lib.hid (HK3.out.and hk)
      clear hk
      go_wp2_with fail
      go_ret
      exact ⟨rfl, HK4.out⟩
end Go.Proofs.YtogfjegedfaekaaDoor
