/-
  Mana: the reference's Valid, ValidCost, Sum; Value.
-/
import Derived.Test.YtogfjegedfaekaaDoorWalkB
set_option linter.unusedVariables false
set_option linter.unusedSimpArgs false
namespace Go.Proofs.YtogfjegedfaekaaDoor
open Go.RowKit Go.Zn
attribute [local go_sem] Oper.semAt_some

def RRel (m a b c d : Int) (i : Value) : Prop := ∃ k : Nat, i = .int .i64 (k : Nat) ∧ k ≤ 4 ∧ ∀ j, j < k → 0 ≤ at4 a b c d j ∧ at4 a b c d j ≤ m
set_option maxRecDepth 100000 in
theorem rvalid_any (a b c d : Int) (w : World) : Calls Tryd.prog 8 #[.agg #[.int .i64 a, .int .i64 b, .int .i64 c, .int .i64 d]] w fun e w' => e = .returned (.bool (in4 99 a b c d)) ∧ Kept No w w' := by
  obtain ⟨w1, hw1⟩ : ∃ w1, w.alloc (.cells #[.int .i64 a, .int .i64 b, .int .i64 c, .int .i64 d] 23) = w1 := ⟨_, rfl⟩
  have hb : w1.heap[w.heap.size]? = some (.cells #[.int .i64 a, .int .i64 b, .int .i64 c, .int .i64 d] 23 (0, 0)) := by rw [← hw1]; exact heap_alloc_new w _
  have HK1 := Lib.hid (show Kept No w w1 by rw [← hw1]; exact (Kept.refl No w).alloc _)
  have c0 := obj_cell hb 0
  have c1 := obj_cell hb 1
  have c2 := obj_cell hb 2
  have c3 := obj_cell hb 3
  have HB := Lib.hid hb
  clear hb
  go_enter Tryd.func8, Tryd.ntmps8
  go_wp2_with fail
  go_loopw [3] (fun i wr => RRel 99 a b c d i ∧ wr = w1) (fun i _ => 4 - (intOf i).toNat)
  case atStart => exact ⟨⟨0, rfl, by decide, fun j h => by omega⟩, rfl⟩
  case round =>
    obtain ⟨⟨k, rfl, hk, hall⟩, hwr⟩ := hrel
    subst hwr
    have HALL := Lib.hid hall
    clear hall
    obtain rfl | rfl | rfl | rfl | rfl : k = 0 ∨ k = 1 ∨ k = 2 ∨ k = 3 ∨ k = 4 := by omega
    · by_cases x1 : a < 0
      · have hr : in4 99 a b c d = false := in4_no 0 (by decide) (.inl x1)
        go_wp2_with fail
        go_ret
        exact ⟨by first | rfl | (rw [hr]; rfl) | simp [hr], HK1.out⟩
      · by_cases x2 : 99 < a
        · have hr : in4 99 a b c d = false := in4_no 0 (by decide) (.inr x2)
          go_wp2_with fail
          go_ret
          exact ⟨by first | rfl | (rw [hr]; rfl) | simp [hr], HK1.out⟩
        · go_wp2_with fail
          exact ⟨⟨⟨1, by go_num, by decide, up4 HALL.out (show 0 ≤ a by omega) (show a ≤ 99 by omega)⟩, trivial⟩, by simp [intOf]⟩
    · by_cases x1 : b < 0
      · have hr : in4 99 a b c d = false := in4_no 1 (by decide) (.inl x1)
        go_wp2_with fail
        go_ret
        exact ⟨by first | rfl | (rw [hr]; rfl) | simp [hr], HK1.out⟩
      · by_cases x2 : 99 < b
        · have hr : in4 99 a b c d = false := in4_no 1 (by decide) (.inr x2)
          go_wp2_with fail
          go_ret
          exact ⟨by first | rfl | (rw [hr]; rfl) | simp [hr], HK1.out⟩
        · go_wp2_with fail
          exact ⟨⟨⟨2, by go_num, by decide, up4 HALL.out (show 0 ≤ b by omega) (show b ≤ 99 by omega)⟩, trivial⟩, by simp [intOf]⟩
    · by_cases x1 : c < 0
      · have hr : in4 99 a b c d = false := in4_no 2 (by decide) (.inl x1)
        go_wp2_with fail
        go_ret
        exact ⟨by first | rfl | (rw [hr]; rfl) | simp [hr], HK1.out⟩
      · by_cases x2 : 99 < c
        · have hr : in4 99 a b c d = false := in4_no 2 (by decide) (.inr x2)
          go_wp2_with fail
          go_ret
          exact ⟨by first | rfl | (rw [hr]; rfl) | simp [hr], HK1.out⟩
        · go_wp2_with fail
          exact ⟨⟨⟨3, by go_num, by decide, up4 HALL.out (show 0 ≤ c by omega) (show c ≤ 99 by omega)⟩, trivial⟩, by simp [intOf]⟩
    · by_cases x1 : d < 0
      · have hr : in4 99 a b c d = false := in4_no 3 (by decide) (.inl x1)
        go_wp2_with fail
        go_ret
        exact ⟨by first | rfl | (rw [hr]; rfl) | simp [hr], HK1.out⟩
      · by_cases x2 : 99 < d
        · have hr : in4 99 a b c d = false := in4_no 3 (by decide) (.inr x2)
          go_wp2_with fail
          go_ret
          exact ⟨by first | rfl | (rw [hr]; rfl) | simp [hr], HK1.out⟩
        · go_wp2_with fail
          exact ⟨⟨⟨4, by go_num, by decide, up4 HALL.out (show 0 ≤ d by omega) (show d ≤ 99 by omega)⟩, trivial⟩, by simp [intOf]⟩
    · have hr : in4 99 a b c d = true := in4_yes HALL.out
      go_wp2_with fail
      go_ret
      exact ⟨by first | rfl | (rw [hr]; rfl) | simp [hr], HK1.out⟩
set_option maxRecDepth 100000 in
theorem rvalidCost_any (a b c d g : Int) (w : World) : Calls Tryd.prog 10 #[.agg #[.int .i64 a, .int .i64 b, .int .i64 c, .int .i64 d, .int .i64 g]] w fun e w' => e = .returned (.bool (cost a b c d g)) ∧ Kept No w w' := by
  obtain ⟨w1, hw1⟩ : ∃ w1, w.alloc (.cells #[.int .i64 a, .int .i64 b, .int .i64 c, .int .i64 d, .int .i64 g] 25) = w1 := ⟨_, rfl⟩
  have hb : w1.heap[w.heap.size]? = some (.cells #[.int .i64 a, .int .i64 b, .int .i64 c, .int .i64 d, .int .i64 g] 25 (0, 0)) := by rw [← hw1]; exact heap_alloc_new w _
  have HK1 := Lib.hid (show Kept No w w1 by rw [← hw1]; exact (Kept.refl No w).alloc _)
  have c0 := obj_cell hb 0
  have c1 := obj_cell hb 1
  have c2 := obj_cell hb 2
  have c3 := obj_cell hb 3
  have c4 := obj_cell hb 4
  have HB := Lib.hid hb
  clear hb
  go_enter Tryd.func10, Tryd.ntmps10
  go_wp2_with fail
  go_loopw [3] (fun i wr => RRel 20 a b c d i ∧ wr = w1) (fun i _ => 4 - (intOf i).toNat)
  case atStart => exact ⟨⟨0, rfl, by decide, fun j h => by omega⟩, rfl⟩
  case round =>
    obtain ⟨⟨k, rfl, hk, hall⟩, hwr⟩ := hrel
    subst hwr
    have HALL := Lib.hid hall
    clear hall
    obtain rfl | rfl | rfl | rfl | rfl : k = 0 ∨ k = 1 ∨ k = 2 ∨ k = 3 ∨ k = 4 := by omega
    · by_cases x1 : a < 0
      · have hr : cost a b c d g = false := by unfold cost; rw [show in4 20 a b c d = false from in4_no 0 (by decide) (.inl x1)]; rfl
        go_wp2_with fail
        go_ret
        exact ⟨by first | rfl | (rw [hr]; rfl) | simp [hr], HK1.out⟩
      · by_cases x2 : 20 < a
        · have hr : cost a b c d g = false := by unfold cost; rw [show in4 20 a b c d = false from in4_no 0 (by decide) (.inr x2)]; rfl
          go_wp2_with fail
          go_ret
          exact ⟨by first | rfl | (rw [hr]; rfl) | simp [hr], HK1.out⟩
        · go_wp2_with fail
          exact ⟨⟨⟨1, by go_num, by decide, up4 HALL.out (show 0 ≤ a by omega) (show a ≤ 20 by omega)⟩, trivial⟩, by simp [intOf]⟩
    · by_cases x1 : b < 0
      · have hr : cost a b c d g = false := by unfold cost; rw [show in4 20 a b c d = false from in4_no 1 (by decide) (.inl x1)]; rfl
        go_wp2_with fail
        go_ret
        exact ⟨by first | rfl | (rw [hr]; rfl) | simp [hr], HK1.out⟩
      · by_cases x2 : 20 < b
        · have hr : cost a b c d g = false := by unfold cost; rw [show in4 20 a b c d = false from in4_no 1 (by decide) (.inr x2)]; rfl
          go_wp2_with fail
          go_ret
          exact ⟨by first | rfl | (rw [hr]; rfl) | simp [hr], HK1.out⟩
        · go_wp2_with fail
          exact ⟨⟨⟨2, by go_num, by decide, up4 HALL.out (show 0 ≤ b by omega) (show b ≤ 20 by omega)⟩, trivial⟩, by simp [intOf]⟩
    · by_cases x1 : c < 0
      · have hr : cost a b c d g = false := by unfold cost; rw [show in4 20 a b c d = false from in4_no 2 (by decide) (.inl x1)]; rfl
        go_wp2_with fail
        go_ret
        exact ⟨by first | rfl | (rw [hr]; rfl) | simp [hr], HK1.out⟩
      · by_cases x2 : 20 < c
        · have hr : cost a b c d g = false := by unfold cost; rw [show in4 20 a b c d = false from in4_no 2 (by decide) (.inr x2)]; rfl
          go_wp2_with fail
          go_ret
          exact ⟨by first | rfl | (rw [hr]; rfl) | simp [hr], HK1.out⟩
        · go_wp2_with fail
          exact ⟨⟨⟨3, by go_num, by decide, up4 HALL.out (show 0 ≤ c by omega) (show c ≤ 20 by omega)⟩, trivial⟩, by simp [intOf]⟩
    · by_cases x1 : d < 0
      · have hr : cost a b c d g = false := by unfold cost; rw [show in4 20 a b c d = false from in4_no 3 (by decide) (.inl x1)]; rfl
        go_wp2_with fail
        go_ret
        exact ⟨by first | rfl | (rw [hr]; rfl) | simp [hr], HK1.out⟩
      · by_cases x2 : 20 < d
        · have hr : cost a b c d g = false := by unfold cost; rw [show in4 20 a b c d = false from in4_no 3 (by decide) (.inr x2)]; rfl
          go_wp2_with fail
          go_ret
          exact ⟨by first | rfl | (rw [hr]; rfl) | simp [hr], HK1.out⟩
        · go_wp2_with fail
          exact ⟨⟨⟨4, by go_num, by decide, up4 HALL.out (show 0 ≤ d by omega) (show d ≤ 20 by omega)⟩, trivial⟩, by simp [intOf]⟩
    · have hi : in4 20 a b c d = true := in4_yes HALL.out
      by_cases h1 : 0 ≤ g
      · have d1 : decide (0 ≤ g) = true := by simp; exact h1
        by_cases h2 : g ≤ 20
        · have d2 : decide (g ≤ 20) = true := by simp; exact h2
          have hr : cost a b c d g = true := by unfold cost; rw [hi]; simp [h1, h2]
          go_wp2_with fail
          go_ret
          exact ⟨by first | rfl | (rw [hr]; rfl) | simp [hr], HK1.out⟩
        · have d2 : decide (g ≤ 20) = false := by simp; omega
          have hr : cost a b c d g = false := by unfold cost; rw [hi]; simp [h2]
          go_wp2_with fail
          go_ret
          exact ⟨by first | rfl | (rw [hr]; rfl) | simp [hr], HK1.out⟩
      · have d1 : decide (0 ≤ g) = false := by simp; omega
        have hr : cost a b c d g = false := by unfold cost; rw [hi]; simp [h1]
        go_wp2_with fail
        go_ret
        exact ⟨by first | rfl | (rw [hr]; rfl) | simp [hr], HK1.out⟩
theorem rsum_any (a b c d : Int) (w : World) (h : in4 99 a b c d = true) : Calls Tryd.prog 9 #[.agg #[.int .i64 a, .int .i64 b, .int .i64 c, .int .i64 d]] w fun e w' => e = .returned (.int .i64 (a + b + c + d)) ∧ Kept No w w' := by
  obtain ⟨⟨a1, a2⟩, ⟨b1, b2⟩, ⟨e1, e2⟩, ⟨d1, d2⟩⟩ := in4_out h
  clear h
  obtain ⟨w1, hw1⟩ : ∃ w1, w.alloc (.cells #[.int .i64 a, .int .i64 b, .int .i64 c, .int .i64 d] 23) = w1 := ⟨_, rfl⟩
  have hb : w1.heap[w.heap.size]? = some (.cells #[.int .i64 a, .int .i64 b, .int .i64 c, .int .i64 d] 23 (0, 0)) := by rw [← hw1]; exact heap_alloc_new w _
  have HK1 := Lib.hid (show Kept No w w1 by rw [← hw1]; exact (Kept.refl No w).alloc _)
  have c0 := obj_cell hb 0
  have c1 := obj_cell hb 1
  have c2 := obj_cell hb 2
  have c3 := obj_cell hb 3
  have HB := Lib.hid hb
  clear hb
  go_enter Tryd.func9, Tryd.ntmps9
  go_wp2_with fail
  go_ret
  exact ⟨rfl, HK1.out⟩
end Go.Proofs.YtogfjegedfaekaaDoor
