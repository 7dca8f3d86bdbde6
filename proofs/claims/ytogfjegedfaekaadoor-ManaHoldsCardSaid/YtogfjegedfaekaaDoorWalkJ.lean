/-
  Mana: Can.
-/
import Derived.Test.YtogfjegedfaekaaDoorWalkH
import Derived.Test.YtogfjegedfaekaaDoorWalkI
set_option linter.unusedVariables false
set_option linter.unusedSimpArgs false
namespace Go.Proofs.YtogfjegedfaekaaDoor
open Go.RowKit Go.Zn Go.Zm
attribute [local go_sem] Oper.semAt_some

def canB (a b c d x y z u g : Int) : Bool := in4 99 a b c d && cost x y z u g && zero (misM ⟨x, y, z, u⟩ ⟨a, b, c, d⟩) (lack ⟨x, y, z, u⟩ ⟨a, b, c, d⟩ g)
set_option maxRecDepth 100000 in
theorem can_any (a b c d x y z u g : Int) (w : World) : Calls Tryd.prog 21 #[.agg #[.int .i64 a, .int .i64 b, .int .i64 c, .int .i64 d], .agg #[.int .i64 x, .int .i64 y, .int .i64 z, .int .i64 u, .int .i64 g]] w fun e w' => e = .returned (.bool (canB a b c d x y z u g)) ∧ Kept No w w' := by
  have he : ∀ W, Sem.run Tryd.prog (binOp .eql 25 (.agg #[.int .i64 (mis x a), .int .i64 (mis y b), .int .i64 (mis z c), .int .i64 (mis u d), .int .i64 (lack ⟨x, y, z, u⟩ ⟨a, b, c, d⟩ g)]) (.agg #[.int .i64 0, .int .i64 0, .int .i64 0, .int .i64 0, .int .i64 0])) W = .ok (.bool (zero (misM ⟨x, y, z, u⟩ ⟨a, b, c, d⟩) (lack ⟨x, y, z, u⟩ ⟨a, b, c, d⟩ g))) W := fun W => eql5 _ _ _ _ _ _ _ _ _ _ W
  obtain ⟨w1, hw1⟩ : ∃ w1, (w.alloc (.cells #[.int .i64 a, .int .i64 b, .int .i64 c, .int .i64 d] 23)).alloc (.cells #[.int .i64 x, .int .i64 y, .int .i64 z, .int .i64 u, .int .i64 g] 25) = w1 := ⟨_, rfl⟩
  have hb : w1.heap[w.heap.size]? = some (.cells #[.int .i64 a, .int .i64 b, .int .i64 c, .int .i64 d] 23 (0, 0)) := by rw [← hw1]; exact obj_alloc (heap_alloc_new w _) _
  have hc : w1.heap[w.heap.size + 1]? = some (.cells #[.int .i64 x, .int .i64 y, .int .i64 z, .int .i64 u, .int .i64 g] 25 (0, 0)) := by rw [← hw1]; exact World.alloc_at (by simp) _
  have HK1 := Lib.hid (show Kept No w w1 by rw [← hw1]; exact ((Kept.refl No w).alloc _).alloc _)
  have c0 := obj_cell hb 0
  have c1 := obj_cell hb 1
  have c2 := obj_cell hb 2
  have c3 := obj_cell hb 3
  have d0 := obj_cell hc 0
  have d1 := obj_cell hc 1
  have d2 := obj_cell hc 2
  have d3 := obj_cell hc 3
  have d4 := obj_cell hc 4
  have HB := Lib.hid hb
  have HC := Lib.hid hc
  clear hb hc
  go_enter Tryd.func21, Tryd.ntmps21
  go_wp2_with fail
  refine (valid_any a b c d _).mono ?_
  rintro e w2 ⟨rfl, hk⟩
  have hb := hk.obj HB.out (not_no _)
  have hc := hk.obj HC.out (not_no _)
  have c0 := obj_cell hb 0
  have c1 := obj_cell hb 1
  have c2 := obj_cell hb 2
  have c3 := obj_cell hb 3
  have d0 := obj_cell hc 0
  have d1 := obj_cell hc 1
  have d2 := obj_cell hc 2
  have d3 := obj_cell hc 3
  have d4 := obj_cell hc 4
  have HB2 := Lib.hid hb
  have HC2 := Lib.hid hc
  have HK2 := Lib.hid (HK1.out.and hk)
  clear hb hc hk
  cases hi : in4 99 a b c d
  · have hr : canB a b c d x y z u g = false := by unfold canB; rw [hi]; rfl
    have HR := Lib.hid hr
    clear hr
    go_wp2_with fail
    go_ret
    exact ⟨by simp [HR.out], HK2.out⟩
  · go_wp2_with fail
    refine (validCost_any x y z u g _).mono ?_
    rintro e w3 ⟨rfl, hk⟩
    have hb := hk.obj HB2.out (not_no _)
    have hc := hk.obj HC2.out (not_no _)
    have c0 := obj_cell hb 0
    have c1 := obj_cell hb 1
    have c2 := obj_cell hb 2
    have c3 := obj_cell hb 3
    have d0 := obj_cell hc 0
    have d1 := obj_cell hc 1
    have d2 := obj_cell hc 2
    have d3 := obj_cell hc 3
    have d4 := obj_cell hc 4
    have HK3 := Lib.hid (HK2.out.and hk)
    clear hb hc hk
    cases hj : cost x y z u g
    · have hr : canB a b c d x y z u g = false := by unfold canB; rw [hi, hj]; rfl
      have HR := Lib.hid hr
      clear hr
      go_wp2_with fail
      go_ret
      exact ⟨by simp [HR.out], HK3.out⟩
    · have hr : canB a b c d x y z u g = zero (misM ⟨x, y, z, u⟩ ⟨a, b, c, d⟩) (lack ⟨x, y, z, u⟩ ⟨a, b, c, d⟩ g) := by unfold canB; rw [hi, hj]; rfl
      have HR := Lib.hid hr
      clear hr
      have HM := Lib.hid (fun W => miss_ok a b c d x y z u g W hi hj)
      clear hi hj
      go_wp2_with fail
      refine (HM.out _).mono ?_
      rintro e w4 ⟨rfl, hk⟩
      have HK4 := Lib.hid (HK3.out.and hk)
      clear hk
      go_wp2_with fail
      go_ret
      exact ⟨by simp [HR.out], HK4.out⟩
end Go.Proofs.YtogfjegedfaekaaDoor
