/-
  Mana: ValidCost, sum, Total, Value, and the reference's.
-/
import Derived.Test.YtogfjegedfaekaaDoorWalkA
set_option linter.unusedVariables false
set_option linter.unusedSimpArgs false
namespace Go.Proofs.YtogfjegedfaekaaDoor
open Go.RowKit Go.Zn
attribute [local go_sem] Oper.semAt_some

theorem in4_out {m a b c d : Int} (h : in4 m a b c d = true) : (0 ≤ a ∧ a ≤ m) ∧ (0 ≤ b ∧ b ≤ m) ∧ (0 ≤ c ∧ c ≤ m) ∧ (0 ≤ d ∧ d ≤ m) := by
  have h1 : In4 m a b c d := of_decide_eq_true h
  exact ⟨h1 0 (by decide), h1 1 (by decide), h1 2 (by decide), h1 3 (by decide)⟩
def cost (a b c d g : Int) : Bool := in4 20 a b c d && decide (0 ≤ g) && decide (g ≤ 20)
set_option maxRecDepth 100000 in
theorem validCost_any (a b c d g : Int) (w : World) : Calls Tryd.prog 13 #[.agg #[.int .i64 a, .int .i64 b, .int .i64 c, .int .i64 d, .int .i64 g]] w fun e w' => e = .returned (.bool (cost a b c d g)) ∧ Kept No w w' := by
  obtain ⟨w1, hw1⟩ : ∃ w1, w.alloc (.cells #[.int .i64 a, .int .i64 b, .int .i64 c, .int .i64 d, .int .i64 g] 25) = w1 := ⟨_, rfl⟩
  have hb : w1.heap[w.heap.size]? = some (.cells #[.int .i64 a, .int .i64 b, .int .i64 c, .int .i64 d, .int .i64 g] 25 (0, 0)) := by rw [← hw1]; exact heap_alloc_new w _
  have HK1 := Lib.hid (show Kept No w w1 by rw [← hw1]; exact (Kept.refl No w).alloc _)
  have c0 := obj_cell hb 0
  have c1 := obj_cell hb 1
  have c2 := obj_cell hb 2
  have c3 := obj_cell hb 3
  have HB := Lib.hid hb
  clear hb
  go_enter Tryd.func13, Tryd.ntmps13
  go_wp2_with fail
  refine (within_any 20 a b c d _).mono ?_
  rintro e w' ⟨rfl, hk⟩
  have c4 := obj_cell (hk.obj HB.out (not_no _)) 4
  have HK := Lib.hid (HK1.out.and hk)
  clear hk
  cases hi : in4 20 a b c d
  · have hr : cost a b c d g = false := by unfold cost; rw [hi]; rfl
    go_wp2_with fail
    go_ret
    exact ⟨by first | rfl | (rw [hr]; rfl) | simp [hr], HK.out⟩
  · by_cases h1 : 0 ≤ g
    · have d1 : decide (0 ≤ g) = true := by simp; exact h1
      by_cases h2 : g ≤ 20
      · have d2 : decide (g ≤ 20) = true := by simp; exact h2
        have hr : cost a b c d g = true := by unfold cost; rw [hi]; simp [h1, h2]
        go_wp2_with fail
        go_ret
        exact ⟨by first | rfl | (rw [hr]; rfl) | simp [hr], HK.out⟩
      · have d2 : decide (g ≤ 20) = false := by simp; omega
        have hr : cost a b c d g = false := by unfold cost; rw [hi]; simp [h2]
        go_wp2_with fail
        go_ret
        exact ⟨by first | rfl | (rw [hr]; rfl) | simp [hr], HK.out⟩
    · have d1 : decide (0 ≤ g) = false := by simp; omega
      have hr : cost a b c d g = false := by unfold cost; rw [hi]; simp [h1]
      go_wp2_with fail
      go_ret
      exact ⟨by first | rfl | (rw [hr]; rfl) | simp [hr], HK.out⟩
def SRel (a b c d : Int) (w0 : World) (t i : Value) (wr : World) : Prop := Kept No w0 wr ∧ ((i = .int .i64 0 ∧ t = .int .i64 0) ∨ (i = .int .i64 1 ∧ t = .int .i64 a) ∨ (i = .int .i64 2 ∧ t = .int .i64 (a + b)) ∨ (i = .int .i64 3 ∧ t = .int .i64 (a + b + c)) ∨ (i = .int .i64 4 ∧ t = .int .i64 (a + b + c + d)))
set_option maxRecDepth 100000 in
theorem sum_any (a b c d : Int) (w : World) (h : in4 99 a b c d = true) : Calls Tryd.prog 31 #[.agg #[.int .i64 a, .int .i64 b, .int .i64 c, .int .i64 d]] w fun e w' => e = .returned (.int .i64 (a + b + c + d)) ∧ Kept No w w' := by
  obtain ⟨⟨a1, a2⟩, ⟨b1, b2⟩, ⟨c1, c2⟩, ⟨d1, d2⟩⟩ := in4_out h
  clear h
  have i0 := idx0 a b c d
  have i1 := idx1 a b c d
  have i2 := idx2 a b c d
  have i3 := idx3 a b c d
  go_enter Tryd.func31, Tryd.ntmps31
  go_wp2_with fail
  go_loopw [3, 7] (fun t i wr => SRel a b c d w t i wr) (fun _ i _ => 4 - (intOf i).toNat)
  case atStart => exact ⟨(Kept.refl No w).alloc _, .inl ⟨rfl, rfl⟩⟩
  case round =>
    obtain ⟨hkk, hr⟩ := hrel
    have HKK := Lib.hid hkk
    clear hkk
    rcases hr with ⟨rfl, rfl⟩ | ⟨rfl, rfl⟩ | ⟨rfl, rfl⟩ | ⟨rfl, rfl⟩ | ⟨rfl, rfl⟩
    · go_wp2_with fail
      exact ⟨⟨HKK.out, by simp⟩, by simp [intOf]⟩
    · go_wp2_with fail
      exact ⟨⟨HKK.out, by simp⟩, by simp [intOf]⟩
    · go_wp2_with fail
      exact ⟨⟨HKK.out, by simp⟩, by simp [intOf]⟩
    · go_wp2_with fail
      exact ⟨⟨HKK.out, by simp⟩, by simp [intOf]⟩
    · go_wp2_with fail
      go_ret
      exact ⟨rfl, HKK.out⟩
def tot (a b c d : Int) : Int := if in4 99 a b c d then a + b + c + d else 0
theorem total_any (a b c d : Int) (w : World) : Calls Tryd.prog 14 #[.agg #[.int .i64 a, .int .i64 b, .int .i64 c, .int .i64 d]] w fun e w' => e = .returned (.int .i64 (tot a b c d)) ∧ Kept No w w' := by
  obtain ⟨w1, hw1⟩ : ∃ w1, w.alloc (.cells #[.int .i64 a, .int .i64 b, .int .i64 c, .int .i64 d] 23) = w1 := ⟨_, rfl⟩
  have hb : w1.heap[w.heap.size]? = some (.cells #[.int .i64 a, .int .i64 b, .int .i64 c, .int .i64 d] 23 (0, 0)) := by rw [← hw1]; exact heap_alloc_new w _
  have HK1 := Lib.hid (show Kept No w w1 by rw [← hw1]; exact (Kept.refl No w).alloc _)
  have c0 := obj_cell hb 0
  have c1 := obj_cell hb 1
  have c2 := obj_cell hb 2
  have c3 := obj_cell hb 3
  have HB := Lib.hid hb
  clear hb
  go_enter Tryd.func14, Tryd.ntmps14
  go_wp2_with fail
  refine (valid_any a b c d _).mono ?_
  rintro e w' ⟨rfl, hk⟩
  have hb2 := hk.obj HB.out (not_no _)
  have c0 := obj_cell hb2 0
  have c1 := obj_cell hb2 1
  have c2 := obj_cell hb2 2
  have c3 := obj_cell hb2 3
  have HK := Lib.hid (HK1.out.and hk)
  clear hk hb2
  cases hi : in4 99 a b c d
  · have hr : tot a b c d = 0 := by unfold tot; rw [hi]; rfl
    go_wp2_with fail
    go_ret
    exact ⟨by first | rfl | (rw [hr]; rfl) | simp [hr], HK.out⟩
  · have hr : tot a b c d = a + b + c + d := by unfold tot; rw [hi]; rfl
    have HI := Lib.hid hi
    clear hi
    go_wp2_with fail
    refine (sum_any a b c d _ HI.out).mono ?_
    rintro e w2 ⟨rfl, hk2⟩
    have HK2 := Lib.hid hk2
    clear hk2
    go_wp2_with fail
    go_ret
    exact ⟨by first | rfl | (rw [hr]; rfl) | simp [hr], HK.out.and HK2.out⟩
end Go.Proofs.YtogfjegedfaekaaDoor
