/-
  Mana: colour, the saturated sum.
-/
import Derived.Test.YtogfjegedfaekaaDoorWalkD
import Derived.Lib.MinMax
set_option linter.unusedVariables false
set_option linter.unusedSimpArgs false
namespace Go.Proofs.YtogfjegedfaekaaDoor
open Go.RowKit Go.Zn
attribute [local go_sem] Oper.semAt_some

def col (k : Int) : Bool := decide (0 ≤ k) && decide (k < 4)
theorem colour_any (k : Int) (w : World) : Calls Tryd.prog 40 #[.int .i64 k] w fun e w' => e = .returned (.bool (col k)) ∧ w = w' := by
  by_cases h1 : 0 ≤ k
  · by_cases h2 : k < 4
    · have hr : col k = true := by unfold col; simp [h1, h2]
      have d2 : decide (k < 4) = true := by simp; exact h2
      go_enter Tryd.func40, Tryd.ntmps40
      go_wp2_with fail
      go_ret
      exact ⟨by first | rfl | (rw [hr]; rfl) | simp [hr], rfl⟩
    · have hr : col k = false := by unfold col; simp [h2]
      have d2 : decide (k < 4) = false := by simp; omega
      go_enter Tryd.func40, Tryd.ntmps40
      go_wp2_with fail
      go_ret
      exact ⟨by first | rfl | (rw [hr]; rfl) | simp [hr], rfl⟩
  · have hr : col k = false := by unfold col; simp [h1]
    have d1 : decide (0 ≤ k) = false := by simp; omega
    go_enter Tryd.func40, Tryd.ntmps40
    go_wp2_with fail
    go_ret
    exact ⟨by first | rfl | (rw [hr]; rfl) | simp [hr], rfl⟩
theorem plus_in (x n : Int) (w : World) (x0 : 0 ≤ x) (x1 : x ≤ 99) (n0 : 0 ≤ n) (hs : x + n ≤ 9223372036854775807) : Calls Tryd.prog 52 #[.int .i64 x, .int .i64 n] w fun e w' => e = .returned (.int .i64 (x + n)) ∧ w = w' := by
  have hwr : IntKind.i64.wrap (x + n) = x + n := IntWalk.i64_in _ (by omega)
  by_cases h1 : 0 < x
  · by_cases h2 : 0 < n
    · have d3 : decide (x + n ≤ 0) = false := by simp; omega
      go_enter Tryd.func52, Tryd.ntmps52
      go_wp2_with fail
      go_ret
      exact ⟨rfl, rfl⟩
    · obtain rfl : n = 0 := by omega
      go_enter Tryd.func52, Tryd.ntmps52
      go_wp2_with fail
      go_ret
      exact ⟨rfl, rfl⟩
  · obtain rfl : x = 0 := by omega
    go_enter Tryd.func52, Tryd.ntmps52
    go_wp2_with fail
    go_ret
    exact ⟨rfl, rfl⟩
theorem plus_out (x n : Int) (w : World) (x0 : 0 ≤ x) (x1 : x ≤ 99) (n0 : n ≤ 9223372036854775807) (hs : 9223372036854775807 < x + n) : Calls Tryd.prog 52 #[.int .i64 x, .int .i64 n] w fun e w' => e = .returned (.int .i64 9223372036854775807) ∧ w = w' := by
  obtain ⟨y, hy⟩ : ∃ y, IntKind.i64.wrap (x + n) = y := ⟨_, rfl⟩
  have hy0 : y ≤ 0 := by rw [← hy, IntKind.wrap_i64]; omega
  have h1 : 0 < x := by omega
  have h2 : 0 < n := by omega
  have d3 : decide (y ≤ 0) = true := by simp; exact hy0
  clear hs
  go_enter Tryd.func52, Tryd.ntmps52
  go_wp2_with fail
  go_ret
  exact ⟨rfl, rfl⟩
def sat (x n : Int) : Int := if x + n ≤ 99 then x + n else 99
theorem clamp_any (v : Int) (w : World) (h : 0 ≤ v) : Calls Tryd.prog 51 #[.int .i64 v, .int .i64 99] w fun e w' => e = .returned (.int .i64 (if v ≤ 99 then v else 99)) ∧ w = w' := by
  have hr : max 0 (min v 99) = (if v ≤ 99 then v else 99) := by
    split <;> omega
  rw [← hr]
  clear hr
  go_enter Tryd.func51, Tryd.ntmps51
  go_wp2_with fail
  go_ret
  exact ⟨by first | rfl | (unfold sat; rfl) | simp [sat], rfl⟩
theorem sat_any (x n : Int) (w : World) (x0 : 0 ≤ x) (x1 : x ≤ 99) (n0 : 0 ≤ n) (n1 : n ≤ 9223372036854775807) : Calls Tryd.prog 41 #[.int .i64 x, .int .i64 n, .int .i64 99] w fun e w' => e = .returned (.int .i64 (sat x n)) ∧ w = w' := by
  by_cases hs : x + n ≤ 9223372036854775807
  · have HP := Lib.hid (plus_in x n w x0 x1 n0 hs)
    have HC := Lib.hid (show Calls Tryd.prog 51 #[.int .i64 (x + n), .int .i64 99] w fun e w' => e = .returned (.int .i64 (sat x n)) ∧ w = w' from clamp_any (x + n) w (by omega))
    clear hs
    go_enter Tryd.func41, Tryd.ntmps41
    go_wp2_with fail
    refine HP.out.mono ?_
    rintro e w' ⟨rfl, rfl⟩
    go_wp2_with fail
    refine HC.out.mono ?_
    rintro e w' ⟨rfl, rfl⟩
    go_wp2_with fail
    go_ret
    exact ⟨by first | rfl | (unfold sat; rfl) | simp [sat], rfl⟩
  · have hr : sat x n = 99 := by unfold sat; rw [if_neg (by omega)]
    rw [hr]
    have HP := Lib.hid (plus_out x n w x0 x1 n1 (by omega))
    have HC := Lib.hid (clamp_any 9223372036854775807 w (by decide))
    clear hs hr
    go_enter Tryd.func41, Tryd.ntmps41
    go_wp2_with fail
    refine HP.out.mono ?_
    rintro e w' ⟨rfl, rfl⟩
    go_wp2_with fail
    refine HC.out.mono ?_
    rintro e w' ⟨rfl, rfl⟩
    go_wp2_with fail
    go_ret
    exact ⟨by first | rfl | (unfold sat; rfl) | simp [sat], rfl⟩
end Go.Proofs.YtogfjegedfaekaaDoor
