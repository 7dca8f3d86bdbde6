/-
  Mana: the reference's Add.
-/
import Derived.Test.YtogfjegedfaekaaDoorWalkF
set_option linter.unusedVariables false
set_option linter.unusedSimpArgs false
namespace Go.Proofs.YtogfjegedfaekaaDoor
open Go.RowKit Go.Zn
attribute [local go_sem] Oper.semAt_some

theorem results11 {W : World} {tmps : Array Value} {g : Nat} {cs : Array Value} {u : Value} (ht : tmps.getD 6 undef = .pointer (some ⟨g, 0, none⟩)) (h7 : tmps.getD 7 undef = u) (hh : W.heap[g]? = some (.cells cs 23 (0, 0))) (hs : cs.size = 4) :
    (results Tryd.f11 tmps).run Tryd.prog W = .ok (.tuple #[.agg cs, u]) W := by
  have hi : (Tryd.prog.info? 23).map (·.size) = some cs.size := by rw [hs]; kernel_rfl
  have e := run_loadVar_row (P := Tryd.prog) W g 23 23 cs (0, 0) _ hh Tryd.underlying23 rfl hi
  rw [results_cell_tmp (p := 6) (u := 7) (ty := 23) rfl, ht, h7]
  simp [asAddr, e, Result.andThen]
set_option maxRecDepth 100000 in
theorem radd_bad (a b c d k n : Int) (w : World) (h : in4 99 a b c d = false) : Calls Tryd.prog 11 #[.agg #[.int .i64 a, .int .i64 b, .int .i64 c, .int .i64 d], .int .i64 k, .int .i64 n] w fun e w' => e = .returned (.tuple #[.agg #[.int .i64 0, .int .i64 0, .int .i64 0, .int .i64 0], .int .i64 2]) ∧ Kept No w w' := by
  obtain ⟨w1, hw1⟩ : ∃ w1, (w.alloc (.cells #[.int .i64 a, .int .i64 b, .int .i64 c, .int .i64 d] 23)).alloc (.cells #[.int .i64 0, .int .i64 0, .int .i64 0, .int .i64 0] 23) = w1 := ⟨_, rfl⟩
  have hb : w1.heap[w.heap.size]? = some (.cells #[.int .i64 a, .int .i64 b, .int .i64 c, .int .i64 d] 23 (0, 0)) := by rw [← hw1]; exact obj_alloc (heap_alloc_new w _) _
  have hz : w1.heap[w.heap.size + 1]? = some (.cells #[.int .i64 0, .int .i64 0, .int .i64 0, .int .i64 0] 23 (0, 0)) := by rw [← hw1]; exact World.alloc_at (by simp) _
  have HK1 := Lib.hid (show Kept No w w1 by rw [← hw1]; exact ((Kept.refl No w).alloc _).alloc _)
  have c0 := obj_cell hb 0
  have c1 := obj_cell hb 1
  have c2 := obj_cell hb 2
  have c3 := obj_cell hb 3
  have HB := Lib.hid hb
  have HZ := Lib.hid hz
  clear hb hz
  go_enter Tryd.func11, Tryd.ntmps11
  go_wp2_with fail
  refine (rvalid_any a b c d _).mono ?_
  rintro e w' ⟨rfl, hk⟩
  rw [h]
  have hz2 := hk.obj HZ.out (not_no _)
  have z0 := obj_cell hz2 0
  have z1 := obj_cell hz2 1
  have z2 := obj_cell hz2 2
  have z3 := obj_cell hz2 3
  have f0 := obj_free hz2 0
  have f1 := obj_free hz2 1
  have f2 := obj_free hz2 2
  have f3 := obj_free hz2 3
  have HZ2 := Lib.hid hz2
  have HK := Lib.hid hk
  clear hk hz2
  go_wp2_with fail
  have k1 := obj_store (obj_store (obj_store (obj_store HZ2.out 0 (.int .i64 0)) 1 (.int .i64 0)) 2 (.int .i64 0)) 3 (.int .i64 0)
  refine bodyPost_ret (results11 rfl rfl k1 rfl) rfl ⟨rfl, ?_⟩
  have hn : ∀ (h : w.heap.size + 1 < w.heap.size), No (w.heap.size + 1) := fun h => by omega
  exact ((((HK1.out.and HK.out).setCell (p := ⟨w.heap.size + 1, 0, none⟩) hn _).setCell (p := ⟨w.heap.size + 1, 1, none⟩) hn _).setCell (p := ⟨w.heap.size + 1, 2, none⟩) hn _).setCell (p := ⟨w.heap.size + 1, 3, none⟩) hn _
set_option maxRecDepth 100000 in
theorem radd_badL (a b c d k n : Int) (w : World) (h : in4 99 a b c d = true) (hk2 : k < 0) : Calls Tryd.prog 11 #[.agg #[.int .i64 a, .int .i64 b, .int .i64 c, .int .i64 d], .int .i64 k, .int .i64 n] w fun e w' => e = .returned (.tuple #[.agg #[.int .i64 0, .int .i64 0, .int .i64 0, .int .i64 0], .int .i64 2]) ∧ Kept No w w' := by
  obtain ⟨w1, hw1⟩ : ∃ w1, (w.alloc (.cells #[.int .i64 a, .int .i64 b, .int .i64 c, .int .i64 d] 23)).alloc (.cells #[.int .i64 0, .int .i64 0, .int .i64 0, .int .i64 0] 23) = w1 := ⟨_, rfl⟩
  have hb : w1.heap[w.heap.size]? = some (.cells #[.int .i64 a, .int .i64 b, .int .i64 c, .int .i64 d] 23 (0, 0)) := by rw [← hw1]; exact obj_alloc (heap_alloc_new w _) _
  have hz : w1.heap[w.heap.size + 1]? = some (.cells #[.int .i64 0, .int .i64 0, .int .i64 0, .int .i64 0] 23 (0, 0)) := by rw [← hw1]; exact World.alloc_at (by simp) _
  have HK1 := Lib.hid (show Kept No w w1 by rw [← hw1]; exact ((Kept.refl No w).alloc _).alloc _)
  have c0 := obj_cell hb 0
  have c1 := obj_cell hb 1
  have c2 := obj_cell hb 2
  have c3 := obj_cell hb 3
  have HB := Lib.hid hb
  have HZ := Lib.hid hz
  clear hb hz
  go_enter Tryd.func11, Tryd.ntmps11
  go_wp2_with fail
  refine (rvalid_any a b c d _).mono ?_
  rintro e w' ⟨rfl, hk⟩
  rw [h]
  have hz2 := hk.obj HZ.out (not_no _)
  have z0 := obj_cell hz2 0
  have z1 := obj_cell hz2 1
  have z2 := obj_cell hz2 2
  have z3 := obj_cell hz2 3
  have f0 := obj_free hz2 0
  have f1 := obj_free hz2 1
  have f2 := obj_free hz2 2
  have f3 := obj_free hz2 3
  have HZ2 := Lib.hid hz2
  have HK := Lib.hid hk
  clear hk hz2
  go_wp2_with fail
  have k1 := obj_store (obj_store (obj_store (obj_store HZ2.out 0 (.int .i64 0)) 1 (.int .i64 0)) 2 (.int .i64 0)) 3 (.int .i64 0)
  refine bodyPost_ret (results11 rfl rfl k1 rfl) rfl ⟨rfl, ?_⟩
  have hn : ∀ (h : w.heap.size + 1 < w.heap.size), No (w.heap.size + 1) := fun h => by omega
  exact ((((HK1.out.and HK.out).setCell (p := ⟨w.heap.size + 1, 0, none⟩) hn _).setCell (p := ⟨w.heap.size + 1, 1, none⟩) hn _).setCell (p := ⟨w.heap.size + 1, 2, none⟩) hn _).setCell (p := ⟨w.heap.size + 1, 3, none⟩) hn _
set_option maxRecDepth 100000 in
theorem radd_badH (a b c d k n : Int) (w : World) (h : in4 99 a b c d = true) (hk1 : 0 ≤ k) (hk2 : 3 < k) : Calls Tryd.prog 11 #[.agg #[.int .i64 a, .int .i64 b, .int .i64 c, .int .i64 d], .int .i64 k, .int .i64 n] w fun e w' => e = .returned (.tuple #[.agg #[.int .i64 0, .int .i64 0, .int .i64 0, .int .i64 0], .int .i64 2]) ∧ Kept No w w' := by
  obtain ⟨w1, hw1⟩ : ∃ w1, (w.alloc (.cells #[.int .i64 a, .int .i64 b, .int .i64 c, .int .i64 d] 23)).alloc (.cells #[.int .i64 0, .int .i64 0, .int .i64 0, .int .i64 0] 23) = w1 := ⟨_, rfl⟩
  have hb : w1.heap[w.heap.size]? = some (.cells #[.int .i64 a, .int .i64 b, .int .i64 c, .int .i64 d] 23 (0, 0)) := by rw [← hw1]; exact obj_alloc (heap_alloc_new w _) _
  have hz : w1.heap[w.heap.size + 1]? = some (.cells #[.int .i64 0, .int .i64 0, .int .i64 0, .int .i64 0] 23 (0, 0)) := by rw [← hw1]; exact World.alloc_at (by simp) _
  have HK1 := Lib.hid (show Kept No w w1 by rw [← hw1]; exact ((Kept.refl No w).alloc _).alloc _)
  have c0 := obj_cell hb 0
  have c1 := obj_cell hb 1
  have c2 := obj_cell hb 2
  have c3 := obj_cell hb 3
  have HB := Lib.hid hb
  have HZ := Lib.hid hz
  clear hb hz
  go_enter Tryd.func11, Tryd.ntmps11
  go_wp2_with fail
  refine (rvalid_any a b c d _).mono ?_
  rintro e w' ⟨rfl, hk⟩
  rw [h]
  have hz2 := hk.obj HZ.out (not_no _)
  have z0 := obj_cell hz2 0
  have z1 := obj_cell hz2 1
  have z2 := obj_cell hz2 2
  have z3 := obj_cell hz2 3
  have f0 := obj_free hz2 0
  have f1 := obj_free hz2 1
  have f2 := obj_free hz2 2
  have f3 := obj_free hz2 3
  have HZ2 := Lib.hid hz2
  have HK := Lib.hid hk
  clear hk hz2
  go_wp2_with fail
  have k1 := obj_store (obj_store (obj_store (obj_store HZ2.out 0 (.int .i64 0)) 1 (.int .i64 0)) 2 (.int .i64 0)) 3 (.int .i64 0)
  refine bodyPost_ret (results11 rfl rfl k1 rfl) rfl ⟨rfl, ?_⟩
  have hn : ∀ (h : w.heap.size + 1 < w.heap.size), No (w.heap.size + 1) := fun h => by omega
  exact ((((HK1.out.and HK.out).setCell (p := ⟨w.heap.size + 1, 0, none⟩) hn _).setCell (p := ⟨w.heap.size + 1, 1, none⟩) hn _).setCell (p := ⟨w.heap.size + 1, 2, none⟩) hn _).setCell (p := ⟨w.heap.size + 1, 3, none⟩) hn _
set_option maxRecDepth 100000 in
theorem radd_badN (a b c d k n : Int) (w : World) (h : in4 99 a b c d = true) (hk1 : 0 ≤ k) (hk2 : k ≤ 3) (hn2 : n < 0) : Calls Tryd.prog 11 #[.agg #[.int .i64 a, .int .i64 b, .int .i64 c, .int .i64 d], .int .i64 k, .int .i64 n] w fun e w' => e = .returned (.tuple #[.agg #[.int .i64 0, .int .i64 0, .int .i64 0, .int .i64 0], .int .i64 2]) ∧ Kept No w w' := by
  obtain ⟨w1, hw1⟩ : ∃ w1, (w.alloc (.cells #[.int .i64 a, .int .i64 b, .int .i64 c, .int .i64 d] 23)).alloc (.cells #[.int .i64 0, .int .i64 0, .int .i64 0, .int .i64 0] 23) = w1 := ⟨_, rfl⟩
  have hb : w1.heap[w.heap.size]? = some (.cells #[.int .i64 a, .int .i64 b, .int .i64 c, .int .i64 d] 23 (0, 0)) := by rw [← hw1]; exact obj_alloc (heap_alloc_new w _) _
  have hz : w1.heap[w.heap.size + 1]? = some (.cells #[.int .i64 0, .int .i64 0, .int .i64 0, .int .i64 0] 23 (0, 0)) := by rw [← hw1]; exact World.alloc_at (by simp) _
  have HK1 := Lib.hid (show Kept No w w1 by rw [← hw1]; exact ((Kept.refl No w).alloc _).alloc _)
  have c0 := obj_cell hb 0
  have c1 := obj_cell hb 1
  have c2 := obj_cell hb 2
  have c3 := obj_cell hb 3
  have HB := Lib.hid hb
  have HZ := Lib.hid hz
  clear hb hz
  go_enter Tryd.func11, Tryd.ntmps11
  go_wp2_with fail
  refine (rvalid_any a b c d _).mono ?_
  rintro e w' ⟨rfl, hk⟩
  rw [h]
  have hz2 := hk.obj HZ.out (not_no _)
  have z0 := obj_cell hz2 0
  have z1 := obj_cell hz2 1
  have z2 := obj_cell hz2 2
  have z3 := obj_cell hz2 3
  have f0 := obj_free hz2 0
  have f1 := obj_free hz2 1
  have f2 := obj_free hz2 2
  have f3 := obj_free hz2 3
  have HZ2 := Lib.hid hz2
  have HK := Lib.hid hk
  clear hk hz2
  go_wp2_with fail
  have k1 := obj_store (obj_store (obj_store (obj_store HZ2.out 0 (.int .i64 0)) 1 (.int .i64 0)) 2 (.int .i64 0)) 3 (.int .i64 0)
  refine bodyPost_ret (results11 rfl rfl k1 rfl) rfl ⟨rfl, ?_⟩
  have hn : ∀ (h : w.heap.size + 1 < w.heap.size), No (w.heap.size + 1) := fun h => by omega
  exact ((((HK1.out.and HK.out).setCell (p := ⟨w.heap.size + 1, 0, none⟩) hn _).setCell (p := ⟨w.heap.size + 1, 1, none⟩) hn _).setCell (p := ⟨w.heap.size + 1, 2, none⟩) hn _).setCell (p := ⟨w.heap.size + 1, 3, none⟩) hn _
set_option maxRecDepth 100000 in
theorem radd_ok0 (a b c d n : Int) (w : World) (h : in4 99 a b c d = true) (hn0 : 0 ≤ n) (hn1 : n ≤ 9223372036854775807) : Calls Tryd.prog 11 #[.agg #[.int .i64 a, .int .i64 b, .int .i64 c, .int .i64 d], .int .i64 0, .int .i64 n] w fun e w' => e = .returned (.tuple #[.agg #[.int .i64 (sat a n), .int .i64 b, .int .i64 c, .int .i64 d], .int .i64 0]) ∧ Kept No w w' := by
  obtain ⟨w1, hw1⟩ : ∃ w1, (w.alloc (.cells #[.int .i64 a, .int .i64 b, .int .i64 c, .int .i64 d] 23)).alloc (.cells #[.int .i64 0, .int .i64 0, .int .i64 0, .int .i64 0] 23) = w1 := ⟨_, rfl⟩
  have hb : w1.heap[w.heap.size]? = some (.cells #[.int .i64 a, .int .i64 b, .int .i64 c, .int .i64 d] 23 (0, 0)) := by rw [← hw1]; exact obj_alloc (heap_alloc_new w _) _
  have hz : w1.heap[w.heap.size + 1]? = some (.cells #[.int .i64 0, .int .i64 0, .int .i64 0, .int .i64 0] 23 (0, 0)) := by rw [← hw1]; exact World.alloc_at (by simp) _
  have HK1 := Lib.hid (show Kept No w w1 by rw [← hw1]; exact ((Kept.refl No w).alloc _).alloc _)
  have c0 := obj_cell hb 0
  have c1 := obj_cell hb 1
  have c2 := obj_cell hb 2
  have c3 := obj_cell hb 3
  have HB := Lib.hid hb
  have HZ := Lib.hid hz
  clear hb hz
  go_enter Tryd.func11, Tryd.ntmps11
  go_wp2_with fail
  refine (rvalid_any a b c d _).mono ?_
  rintro e w' ⟨rfl, hk⟩
  rw [h]
  have hz2 := hk.obj HZ.out (not_no _)
  have z0 := obj_cell hz2 0
  have z1 := obj_cell hz2 1
  have z2 := obj_cell hz2 2
  have z3 := obj_cell hz2 3
  have f0 := obj_free hz2 0
  have f1 := obj_free hz2 1
  have f2 := obj_free hz2 2
  have f3 := obj_free hz2 3
  have hb2 := hk.obj HB.out (not_no _)
  have c0 := obj_cell hb2 0
  have c1 := obj_cell hb2 1
  have c2 := obj_cell hb2 2
  have c3 := obj_cell hb2 3
  have g0 := obj_free hb2 0
  have hx := in4_out h
  have hx0 : 0 ≤ a ∧ a ≤ 99 := by omega
  have HB2 := Lib.hid hb2
  have HZ3 := Lib.hid hz2
  clear hx hb2
  have HZ2 := Lib.hid hz2
  have HK := Lib.hid hk
  clear hk hz2
  by_cases hle : a + n ≤ 99
  · have hd : decide (99 - a < n) = false := by simp; omega
    have hy : sat a n = a + n := by unfold sat; rw [if_pos hle]
    have hW := obj_store HB2.out 0 (.int .i64 (a + n))
    have hZ := obj_setCell HZ3.out (p := ⟨w.heap.size, 0, none⟩) (.int .i64 (a + n)) (by simp)
    have e0 := obj_cell hW 0
    have e1 := obj_cell hW 1
    have e2 := obj_cell hW 2
    have e3 := obj_cell hW 3
    have y0 := obj_cell hZ 0
    have y1 := obj_cell hZ 1
    have y2 := obj_cell hZ 2
    have y3 := obj_cell hZ 3
    have x0 := obj_free hZ 0
    have x1 := obj_free hZ 1
    have x2 := obj_free hZ 2
    have x3 := obj_free hZ 3
    have HZ4 := Lib.hid hZ
    have HY := Lib.hid hy
    clear hW hZ hy
    go_wp2_with fail
    have k1 := obj_store (obj_store (obj_store (obj_store HZ4.out 0 (.int .i64 (a + n))) 1 (.int .i64 (b))) 2 (.int .i64 (c))) 3 (.int .i64 (d))
    refine bodyPost_ret (results11 rfl rfl k1 rfl) rfl ⟨by rw [HY.out]; rfl, ?_⟩
    have hn : ∀ (h : w.heap.size + 1 < w.heap.size), No (w.heap.size + 1) := fun h => by omega
    have hn2 : ∀ (h : w.heap.size < w.heap.size), No w.heap.size := fun h => by omega
    exact (((((HK1.out.and HK.out).setCell (p := ⟨w.heap.size, 0, none⟩) hn2 _).setCell (p := ⟨w.heap.size + 1, 0, none⟩) hn _).setCell (p := ⟨w.heap.size + 1, 1, none⟩) hn _).setCell (p := ⟨w.heap.size + 1, 2, none⟩) hn _).setCell (p := ⟨w.heap.size + 1, 3, none⟩) hn _
  · have hd : decide (99 - a < n) = true := by simp; omega
    have hy : sat a n = 99 := by unfold sat; rw [if_neg hle]
    have hW := obj_store HB2.out 0 (.int .i64 (99))
    have hZ := obj_setCell HZ3.out (p := ⟨w.heap.size, 0, none⟩) (.int .i64 (99)) (by simp)
    have e0 := obj_cell hW 0
    have e1 := obj_cell hW 1
    have e2 := obj_cell hW 2
    have e3 := obj_cell hW 3
    have y0 := obj_cell hZ 0
    have y1 := obj_cell hZ 1
    have y2 := obj_cell hZ 2
    have y3 := obj_cell hZ 3
    have x0 := obj_free hZ 0
    have x1 := obj_free hZ 1
    have x2 := obj_free hZ 2
    have x3 := obj_free hZ 3
    have HZ4 := Lib.hid hZ
    have HY := Lib.hid hy
    clear hW hZ hy
    go_wp2_with fail
    have k1 := obj_store (obj_store (obj_store (obj_store HZ4.out 0 (.int .i64 (99))) 1 (.int .i64 (b))) 2 (.int .i64 (c))) 3 (.int .i64 (d))
    refine bodyPost_ret (results11 rfl rfl k1 rfl) rfl ⟨by rw [HY.out]; rfl, ?_⟩
    have hn : ∀ (h : w.heap.size + 1 < w.heap.size), No (w.heap.size + 1) := fun h => by omega
    have hn2 : ∀ (h : w.heap.size < w.heap.size), No w.heap.size := fun h => by omega
    exact (((((HK1.out.and HK.out).setCell (p := ⟨w.heap.size, 0, none⟩) hn2 _).setCell (p := ⟨w.heap.size + 1, 0, none⟩) hn _).setCell (p := ⟨w.heap.size + 1, 1, none⟩) hn _).setCell (p := ⟨w.heap.size + 1, 2, none⟩) hn _).setCell (p := ⟨w.heap.size + 1, 3, none⟩) hn _
set_option maxRecDepth 100000 in
theorem radd_ok1 (a b c d n : Int) (w : World) (h : in4 99 a b c d = true) (hn0 : 0 ≤ n) (hn1 : n ≤ 9223372036854775807) : Calls Tryd.prog 11 #[.agg #[.int .i64 a, .int .i64 b, .int .i64 c, .int .i64 d], .int .i64 1, .int .i64 n] w fun e w' => e = .returned (.tuple #[.agg #[.int .i64 a, .int .i64 (sat b n), .int .i64 c, .int .i64 d], .int .i64 0]) ∧ Kept No w w' := by
  obtain ⟨w1, hw1⟩ : ∃ w1, (w.alloc (.cells #[.int .i64 a, .int .i64 b, .int .i64 c, .int .i64 d] 23)).alloc (.cells #[.int .i64 0, .int .i64 0, .int .i64 0, .int .i64 0] 23) = w1 := ⟨_, rfl⟩
  have hb : w1.heap[w.heap.size]? = some (.cells #[.int .i64 a, .int .i64 b, .int .i64 c, .int .i64 d] 23 (0, 0)) := by rw [← hw1]; exact obj_alloc (heap_alloc_new w _) _
  have hz : w1.heap[w.heap.size + 1]? = some (.cells #[.int .i64 0, .int .i64 0, .int .i64 0, .int .i64 0] 23 (0, 0)) := by rw [← hw1]; exact World.alloc_at (by simp) _
  have HK1 := Lib.hid (show Kept No w w1 by rw [← hw1]; exact ((Kept.refl No w).alloc _).alloc _)
  have c0 := obj_cell hb 0
  have c1 := obj_cell hb 1
  have c2 := obj_cell hb 2
  have c3 := obj_cell hb 3
  have HB := Lib.hid hb
  have HZ := Lib.hid hz
  clear hb hz
  go_enter Tryd.func11, Tryd.ntmps11
  go_wp2_with fail
  refine (rvalid_any a b c d _).mono ?_
  rintro e w' ⟨rfl, hk⟩
  rw [h]
  have hz2 := hk.obj HZ.out (not_no _)
  have z0 := obj_cell hz2 0
  have z1 := obj_cell hz2 1
  have z2 := obj_cell hz2 2
  have z3 := obj_cell hz2 3
  have f0 := obj_free hz2 0
  have f1 := obj_free hz2 1
  have f2 := obj_free hz2 2
  have f3 := obj_free hz2 3
  have hb2 := hk.obj HB.out (not_no _)
  have c0 := obj_cell hb2 0
  have c1 := obj_cell hb2 1
  have c2 := obj_cell hb2 2
  have c3 := obj_cell hb2 3
  have g1 := obj_free hb2 1
  have hx := in4_out h
  have hx0 : 0 ≤ b ∧ b ≤ 99 := by omega
  have HB2 := Lib.hid hb2
  have HZ3 := Lib.hid hz2
  clear hx hb2
  have HZ2 := Lib.hid hz2
  have HK := Lib.hid hk
  clear hk hz2
  by_cases hle : b + n ≤ 99
  · have hd : decide (99 - b < n) = false := by simp; omega
    have hy : sat b n = b + n := by unfold sat; rw [if_pos hle]
    have hW := obj_store HB2.out 1 (.int .i64 (b + n))
    have hZ := obj_setCell HZ3.out (p := ⟨w.heap.size, 1, none⟩) (.int .i64 (b + n)) (by simp)
    have e0 := obj_cell hW 0
    have e1 := obj_cell hW 1
    have e2 := obj_cell hW 2
    have e3 := obj_cell hW 3
    have y0 := obj_cell hZ 0
    have y1 := obj_cell hZ 1
    have y2 := obj_cell hZ 2
    have y3 := obj_cell hZ 3
    have x0 := obj_free hZ 0
    have x1 := obj_free hZ 1
    have x2 := obj_free hZ 2
    have x3 := obj_free hZ 3
    have HZ4 := Lib.hid hZ
    have HY := Lib.hid hy
    clear hW hZ hy
    go_wp2_with fail
    have k1 := obj_store (obj_store (obj_store (obj_store HZ4.out 0 (.int .i64 (a))) 1 (.int .i64 (b + n))) 2 (.int .i64 (c))) 3 (.int .i64 (d))
    refine bodyPost_ret (results11 rfl rfl k1 rfl) rfl ⟨by rw [HY.out]; rfl, ?_⟩
    have hn : ∀ (h : w.heap.size + 1 < w.heap.size), No (w.heap.size + 1) := fun h => by omega
    have hn2 : ∀ (h : w.heap.size < w.heap.size), No w.heap.size := fun h => by omega
    exact (((((HK1.out.and HK.out).setCell (p := ⟨w.heap.size, 1, none⟩) hn2 _).setCell (p := ⟨w.heap.size + 1, 0, none⟩) hn _).setCell (p := ⟨w.heap.size + 1, 1, none⟩) hn _).setCell (p := ⟨w.heap.size + 1, 2, none⟩) hn _).setCell (p := ⟨w.heap.size + 1, 3, none⟩) hn _
  · have hd : decide (99 - b < n) = true := by simp; omega
    have hy : sat b n = 99 := by unfold sat; rw [if_neg hle]
    have hW := obj_store HB2.out 1 (.int .i64 (99))
    have hZ := obj_setCell HZ3.out (p := ⟨w.heap.size, 1, none⟩) (.int .i64 (99)) (by simp)
    have e0 := obj_cell hW 0
    have e1 := obj_cell hW 1
    have e2 := obj_cell hW 2
    have e3 := obj_cell hW 3
    have y0 := obj_cell hZ 0
    have y1 := obj_cell hZ 1
    have y2 := obj_cell hZ 2
    have y3 := obj_cell hZ 3
    have x0 := obj_free hZ 0
    have x1 := obj_free hZ 1
    have x2 := obj_free hZ 2
    have x3 := obj_free hZ 3
    have HZ4 := Lib.hid hZ
    have HY := Lib.hid hy
    clear hW hZ hy
    go_wp2_with fail
    have k1 := obj_store (obj_store (obj_store (obj_store HZ4.out 0 (.int .i64 (a))) 1 (.int .i64 (99))) 2 (.int .i64 (c))) 3 (.int .i64 (d))
    refine bodyPost_ret (results11 rfl rfl k1 rfl) rfl ⟨by rw [HY.out]; rfl, ?_⟩
    have hn : ∀ (h : w.heap.size + 1 < w.heap.size), No (w.heap.size + 1) := fun h => by omega
    have hn2 : ∀ (h : w.heap.size < w.heap.size), No w.heap.size := fun h => by omega
    exact (((((HK1.out.and HK.out).setCell (p := ⟨w.heap.size, 1, none⟩) hn2 _).setCell (p := ⟨w.heap.size + 1, 0, none⟩) hn _).setCell (p := ⟨w.heap.size + 1, 1, none⟩) hn _).setCell (p := ⟨w.heap.size + 1, 2, none⟩) hn _).setCell (p := ⟨w.heap.size + 1, 3, none⟩) hn _
set_option maxRecDepth 100000 in
theorem radd_ok2 (a b c d n : Int) (w : World) (h : in4 99 a b c d = true) (hn0 : 0 ≤ n) (hn1 : n ≤ 9223372036854775807) : Calls Tryd.prog 11 #[.agg #[.int .i64 a, .int .i64 b, .int .i64 c, .int .i64 d], .int .i64 2, .int .i64 n] w fun e w' => e = .returned (.tuple #[.agg #[.int .i64 a, .int .i64 b, .int .i64 (sat c n), .int .i64 d], .int .i64 0]) ∧ Kept No w w' := by
  obtain ⟨w1, hw1⟩ : ∃ w1, (w.alloc (.cells #[.int .i64 a, .int .i64 b, .int .i64 c, .int .i64 d] 23)).alloc (.cells #[.int .i64 0, .int .i64 0, .int .i64 0, .int .i64 0] 23) = w1 := ⟨_, rfl⟩
  have hb : w1.heap[w.heap.size]? = some (.cells #[.int .i64 a, .int .i64 b, .int .i64 c, .int .i64 d] 23 (0, 0)) := by rw [← hw1]; exact obj_alloc (heap_alloc_new w _) _
  have hz : w1.heap[w.heap.size + 1]? = some (.cells #[.int .i64 0, .int .i64 0, .int .i64 0, .int .i64 0] 23 (0, 0)) := by rw [← hw1]; exact World.alloc_at (by simp) _
  have HK1 := Lib.hid (show Kept No w w1 by rw [← hw1]; exact ((Kept.refl No w).alloc _).alloc _)
  have c0 := obj_cell hb 0
  have c1 := obj_cell hb 1
  have c2 := obj_cell hb 2
  have c3 := obj_cell hb 3
  have HB := Lib.hid hb
  have HZ := Lib.hid hz
  clear hb hz
  go_enter Tryd.func11, Tryd.ntmps11
  go_wp2_with fail
  refine (rvalid_any a b c d _).mono ?_
  rintro e w' ⟨rfl, hk⟩
  rw [h]
  have hz2 := hk.obj HZ.out (not_no _)
  have z0 := obj_cell hz2 0
  have z1 := obj_cell hz2 1
  have z2 := obj_cell hz2 2
  have z3 := obj_cell hz2 3
  have f0 := obj_free hz2 0
  have f1 := obj_free hz2 1
  have f2 := obj_free hz2 2
  have f3 := obj_free hz2 3
  have hb2 := hk.obj HB.out (not_no _)
  have c0 := obj_cell hb2 0
  have c1 := obj_cell hb2 1
  have c2 := obj_cell hb2 2
  have c3 := obj_cell hb2 3
  have g2 := obj_free hb2 2
  have hx := in4_out h
  have hx0 : 0 ≤ c ∧ c ≤ 99 := by omega
  have HB2 := Lib.hid hb2
  have HZ3 := Lib.hid hz2
  clear hx hb2
  have HZ2 := Lib.hid hz2
  have HK := Lib.hid hk
  clear hk hz2
  by_cases hle : c + n ≤ 99
  · have hd : decide (99 - c < n) = false := by simp; omega
    have hy : sat c n = c + n := by unfold sat; rw [if_pos hle]
    have hW := obj_store HB2.out 2 (.int .i64 (c + n))
    have hZ := obj_setCell HZ3.out (p := ⟨w.heap.size, 2, none⟩) (.int .i64 (c + n)) (by simp)
    have e0 := obj_cell hW 0
    have e1 := obj_cell hW 1
    have e2 := obj_cell hW 2
    have e3 := obj_cell hW 3
    have y0 := obj_cell hZ 0
    have y1 := obj_cell hZ 1
    have y2 := obj_cell hZ 2
    have y3 := obj_cell hZ 3
    have x0 := obj_free hZ 0
    have x1 := obj_free hZ 1
    have x2 := obj_free hZ 2
    have x3 := obj_free hZ 3
    have HZ4 := Lib.hid hZ
    have HY := Lib.hid hy
    clear hW hZ hy
    go_wp2_with fail
    have k1 := obj_store (obj_store (obj_store (obj_store HZ4.out 0 (.int .i64 (a))) 1 (.int .i64 (b))) 2 (.int .i64 (c + n))) 3 (.int .i64 (d))
    refine bodyPost_ret (results11 rfl rfl k1 rfl) rfl ⟨by rw [HY.out]; rfl, ?_⟩
    have hn : ∀ (h : w.heap.size + 1 < w.heap.size), No (w.heap.size + 1) := fun h => by omega
    have hn2 : ∀ (h : w.heap.size < w.heap.size), No w.heap.size := fun h => by omega
    exact (((((HK1.out.and HK.out).setCell (p := ⟨w.heap.size, 2, none⟩) hn2 _).setCell (p := ⟨w.heap.size + 1, 0, none⟩) hn _).setCell (p := ⟨w.heap.size + 1, 1, none⟩) hn _).setCell (p := ⟨w.heap.size + 1, 2, none⟩) hn _).setCell (p := ⟨w.heap.size + 1, 3, none⟩) hn _
  · have hd : decide (99 - c < n) = true := by simp; omega
    have hy : sat c n = 99 := by unfold sat; rw [if_neg hle]
    have hW := obj_store HB2.out 2 (.int .i64 (99))
    have hZ := obj_setCell HZ3.out (p := ⟨w.heap.size, 2, none⟩) (.int .i64 (99)) (by simp)
    have e0 := obj_cell hW 0
    have e1 := obj_cell hW 1
    have e2 := obj_cell hW 2
    have e3 := obj_cell hW 3
    have y0 := obj_cell hZ 0
    have y1 := obj_cell hZ 1
    have y2 := obj_cell hZ 2
    have y3 := obj_cell hZ 3
    have x0 := obj_free hZ 0
    have x1 := obj_free hZ 1
    have x2 := obj_free hZ 2
    have x3 := obj_free hZ 3
    have HZ4 := Lib.hid hZ
    have HY := Lib.hid hy
    clear hW hZ hy
    go_wp2_with fail
    have k1 := obj_store (obj_store (obj_store (obj_store HZ4.out 0 (.int .i64 (a))) 1 (.int .i64 (b))) 2 (.int .i64 (99))) 3 (.int .i64 (d))
    refine bodyPost_ret (results11 rfl rfl k1 rfl) rfl ⟨by rw [HY.out]; rfl, ?_⟩
    have hn : ∀ (h : w.heap.size + 1 < w.heap.size), No (w.heap.size + 1) := fun h => by omega
    have hn2 : ∀ (h : w.heap.size < w.heap.size), No w.heap.size := fun h => by omega
    exact (((((HK1.out.and HK.out).setCell (p := ⟨w.heap.size, 2, none⟩) hn2 _).setCell (p := ⟨w.heap.size + 1, 0, none⟩) hn _).setCell (p := ⟨w.heap.size + 1, 1, none⟩) hn _).setCell (p := ⟨w.heap.size + 1, 2, none⟩) hn _).setCell (p := ⟨w.heap.size + 1, 3, none⟩) hn _
set_option maxRecDepth 100000 in
theorem radd_ok3 (a b c d n : Int) (w : World) (h : in4 99 a b c d = true) (hn0 : 0 ≤ n) (hn1 : n ≤ 9223372036854775807) : Calls Tryd.prog 11 #[.agg #[.int .i64 a, .int .i64 b, .int .i64 c, .int .i64 d], .int .i64 3, .int .i64 n] w fun e w' => e = .returned (.tuple #[.agg #[.int .i64 a, .int .i64 b, .int .i64 c, .int .i64 (sat d n)], .int .i64 0]) ∧ Kept No w w' := by
  obtain ⟨w1, hw1⟩ : ∃ w1, (w.alloc (.cells #[.int .i64 a, .int .i64 b, .int .i64 c, .int .i64 d] 23)).alloc (.cells #[.int .i64 0, .int .i64 0, .int .i64 0, .int .i64 0] 23) = w1 := ⟨_, rfl⟩
  have hb : w1.heap[w.heap.size]? = some (.cells #[.int .i64 a, .int .i64 b, .int .i64 c, .int .i64 d] 23 (0, 0)) := by rw [← hw1]; exact obj_alloc (heap_alloc_new w _) _
  have hz : w1.heap[w.heap.size + 1]? = some (.cells #[.int .i64 0, .int .i64 0, .int .i64 0, .int .i64 0] 23 (0, 0)) := by rw [← hw1]; exact World.alloc_at (by simp) _
  have HK1 := Lib.hid (show Kept No w w1 by rw [← hw1]; exact ((Kept.refl No w).alloc _).alloc _)
  have c0 := obj_cell hb 0
  have c1 := obj_cell hb 1
  have c2 := obj_cell hb 2
  have c3 := obj_cell hb 3
  have HB := Lib.hid hb
  have HZ := Lib.hid hz
  clear hb hz
  go_enter Tryd.func11, Tryd.ntmps11
  go_wp2_with fail
  refine (rvalid_any a b c d _).mono ?_
  rintro e w' ⟨rfl, hk⟩
  rw [h]
  have hz2 := hk.obj HZ.out (not_no _)
  have z0 := obj_cell hz2 0
  have z1 := obj_cell hz2 1
  have z2 := obj_cell hz2 2
  have z3 := obj_cell hz2 3
  have f0 := obj_free hz2 0
  have f1 := obj_free hz2 1
  have f2 := obj_free hz2 2
  have f3 := obj_free hz2 3
  have hb2 := hk.obj HB.out (not_no _)
  have c0 := obj_cell hb2 0
  have c1 := obj_cell hb2 1
  have c2 := obj_cell hb2 2
  have c3 := obj_cell hb2 3
  have g3 := obj_free hb2 3
  have hx := in4_out h
  have hx0 : 0 ≤ d ∧ d ≤ 99 := by omega
  have HB2 := Lib.hid hb2
  have HZ3 := Lib.hid hz2
  clear hx hb2
  have HZ2 := Lib.hid hz2
  have HK := Lib.hid hk
  clear hk hz2
  by_cases hle : d + n ≤ 99
  · have hd : decide (99 - d < n) = false := by simp; omega
    have hy : sat d n = d + n := by unfold sat; rw [if_pos hle]
    have hW := obj_store HB2.out 3 (.int .i64 (d + n))
    have hZ := obj_setCell HZ3.out (p := ⟨w.heap.size, 3, none⟩) (.int .i64 (d + n)) (by simp)
    have e0 := obj_cell hW 0
    have e1 := obj_cell hW 1
    have e2 := obj_cell hW 2
    have e3 := obj_cell hW 3
    have y0 := obj_cell hZ 0
    have y1 := obj_cell hZ 1
    have y2 := obj_cell hZ 2
    have y3 := obj_cell hZ 3
    have x0 := obj_free hZ 0
    have x1 := obj_free hZ 1
    have x2 := obj_free hZ 2
    have x3 := obj_free hZ 3
    have HZ4 := Lib.hid hZ
    have HY := Lib.hid hy
    clear hW hZ hy
    go_wp2_with fail
    have k1 := obj_store (obj_store (obj_store (obj_store HZ4.out 0 (.int .i64 (a))) 1 (.int .i64 (b))) 2 (.int .i64 (c))) 3 (.int .i64 (d + n))
    refine bodyPost_ret (results11 rfl rfl k1 rfl) rfl ⟨by rw [HY.out]; rfl, ?_⟩
    have hn : ∀ (h : w.heap.size + 1 < w.heap.size), No (w.heap.size + 1) := fun h => by omega
    have hn2 : ∀ (h : w.heap.size < w.heap.size), No w.heap.size := fun h => by omega
    exact (((((HK1.out.and HK.out).setCell (p := ⟨w.heap.size, 3, none⟩) hn2 _).setCell (p := ⟨w.heap.size + 1, 0, none⟩) hn _).setCell (p := ⟨w.heap.size + 1, 1, none⟩) hn _).setCell (p := ⟨w.heap.size + 1, 2, none⟩) hn _).setCell (p := ⟨w.heap.size + 1, 3, none⟩) hn _
  · have hd : decide (99 - d < n) = true := by simp; omega
    have hy : sat d n = 99 := by unfold sat; rw [if_neg hle]
    have hW := obj_store HB2.out 3 (.int .i64 (99))
    have hZ := obj_setCell HZ3.out (p := ⟨w.heap.size, 3, none⟩) (.int .i64 (99)) (by simp)
    have e0 := obj_cell hW 0
    have e1 := obj_cell hW 1
    have e2 := obj_cell hW 2
    have e3 := obj_cell hW 3
    have y0 := obj_cell hZ 0
    have y1 := obj_cell hZ 1
    have y2 := obj_cell hZ 2
    have y3 := obj_cell hZ 3
    have x0 := obj_free hZ 0
    have x1 := obj_free hZ 1
    have x2 := obj_free hZ 2
    have x3 := obj_free hZ 3
    have HZ4 := Lib.hid hZ
    have HY := Lib.hid hy
    clear hW hZ hy
    go_wp2_with fail
    have k1 := obj_store (obj_store (obj_store (obj_store HZ4.out 0 (.int .i64 (a))) 1 (.int .i64 (b))) 2 (.int .i64 (c))) 3 (.int .i64 (99))
    refine bodyPost_ret (results11 rfl rfl k1 rfl) rfl ⟨by rw [HY.out]; rfl, ?_⟩
    have hn : ∀ (h : w.heap.size + 1 < w.heap.size), No (w.heap.size + 1) := fun h => by omega
    have hn2 : ∀ (h : w.heap.size < w.heap.size), No w.heap.size := fun h => by omega
    exact (((((HK1.out.and HK.out).setCell (p := ⟨w.heap.size, 3, none⟩) hn2 _).setCell (p := ⟨w.heap.size + 1, 0, none⟩) hn _).setCell (p := ⟨w.heap.size + 1, 1, none⟩) hn _).setCell (p := ⟨w.heap.size + 1, 2, none⟩) hn _).setCell (p := ⟨w.heap.size + 1, 3, none⟩) hn _
end Go.Proofs.YtogfjegedfaekaaDoor
