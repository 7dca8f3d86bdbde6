/-
  Mana: Pay.
-/
import Derived.Test.YtogfjegedfaekaaDoorWalkJ
import Derived.Deep.QuietTactic
set_option linter.unusedVariables false
set_option linter.unusedSimpArgs false
namespace Go.Proofs.YtogfjegedfaekaaDoor
open Go.RowKit Go.Zn Go.Zm
attribute [local go_sem] Oper.semAt_some

theorem results26 {W : World} {tmps : Array Value} {g : Nat} {cs : Array Value} {u : Value} (ht : tmps.getD 4 undef = .pointer (some ⟨g, 0, none⟩)) (h5 : tmps.getD 5 undef = u) (hh : W.heap[g]? = some (.cells cs 23 (0, 0))) (hs : cs.size = 4) :
    (results Tryd.f26 tmps).run Tryd.prog W = .ok (.tuple #[.agg cs, u]) W := by
  have hi : (Tryd.prog.info? 23).map (·.size) = some cs.size := by rw [hs]; kernel_rfl
  have e := run_loadVar_row (P := Tryd.prog) W g 23 23 cs (0, 0) _ hh Tryd.underlying23 rfl hi
  rw [results_cell_tmp (p := 4) (u := 5) (ty := 23) rfl, ht, h5]
  simp [asAddr, e, Result.andThen]
/-- Behind some of the payment the pool is v. -/
structure PW (v : M4) (x y z u g : Int) (w0 wr : World) : Prop where
  hm : wr.heap[w0.heap.size]? = some (.cells #[.int .i64 v.a, .int .i64 v.b, .int .i64 v.c, .int .i64 v.d] 23 (0, 0))
  hc : wr.heap[w0.heap.size + 1]? = some (.cells #[.int .i64 x, .int .i64 y, .int .i64 z, .int .i64 u, .int .i64 g] 25 (0, 0))
  hz : wr.heap[w0.heap.size + 1 + 1]? = some (.cells #[.int .i64 0, .int .i64 0, .int .i64 0, .int .i64 0] 23 (0, 0))
  kept : Kept No w0 wr
theorem PW.drewN {v : M4} {x y z u g : Int} {w0 wr : World} (h : PW v x y z u g w0 wr) (n : Nat) : PW v x y z u g w0 (wr.drewN n) := ⟨h.hm, h.hc, h.hz, h.kept.drewN n⟩
theorem PW.drew {v : M4} {x y z u g : Int} {w0 wr : World} (h : PW v x y z u g w0 wr) : PW v x y z u g w0 wr.drew := ⟨h.hm, h.hc, h.hz, h.kept.drew⟩
theorem PW.to {v : M4} {x y z u g : Int} {w0 wr w' : World} (h : PW v x y z u g w0 wr) (hk : Kept No wr w') : PW v x y z u g w0 w' := ⟨hk.obj h.hm (not_no _), hk.obj h.hc (not_no _), hk.obj h.hz (not_no _), h.kept.and hk⟩
theorem PW.put {v : M4} {x y z u g : Int} {w0 wr : World} (h : PW v x y z u g w0 wr) (k : Nat) (hk : k < 4) (t : Int) : PW (put v k t) x y z u g w0 (wr.setCell ⟨w0.heap.size, k, none⟩ (.int .i64 t)) := by
  refine ⟨?_, obj_setCell h.hc _ (by simp), obj_setCell h.hz _ (by simp <;> omega), h.kept.setCell (fun h => by simp at h) _⟩
  have e := obj_store h.hm k (.int .i64 t)
  obtain rfl | rfl | rfl | rfl : k = 0 ∨ k = 1 ∨ k = 2 ∨ k = 3 := by omega
  all_goals exact e
def sK (m c : M4) : Nat → M4
  | 0 => m
  | 1 => ⟨m.a - c.a, m.b, m.c, m.d⟩
  | 2 => ⟨m.a - c.a, m.b - c.b, m.c, m.d⟩
  | 3 => ⟨m.a - c.a, m.b - c.b, m.c - c.c, m.d⟩
  | _ => subM m c
theorem canB_out {a b c d x y z u g : Int} (h : canB a b c d x y z u g = true) : in4 99 a b c d = true ∧ cost x y z u g = true ∧ Le ⟨x, y, z, u⟩ ⟨a, b, c, d⟩ ∧ g ≤ su (subM ⟨a, b, c, d⟩ ⟨x, y, z, u⟩) := by
  unfold canB at h
  simp only [Bool.and_eq_true] at h
  obtain ⟨⟨h1, h2⟩, h3⟩ := h
  have h4 := (zero_iff _ _ _).1 h3
  exact ⟨h1, h2, h4.1, h4.2⟩
set_option maxRecDepth 100000 in
theorem pay_bad1 (a b c d x y z u g : Int) (w : World) (h : in4 99 a b c d = false) : Calls Tryd.prog 26 #[.agg #[.int .i64 a, .int .i64 b, .int .i64 c, .int .i64 d], .agg #[.int .i64 x, .int .i64 y, .int .i64 z, .int .i64 u, .int .i64 g]] w fun e w' => e = .returned (.tuple #[.agg #[.int .i64 0, .int .i64 0, .int .i64 0, .int .i64 0], .int .i64 2]) ∧ Kept No w w' := by
  obtain ⟨w1, hw1⟩ : ∃ w1, ((w.alloc (.cells #[.int .i64 a, .int .i64 b, .int .i64 c, .int .i64 d] 23)).alloc (.cells #[.int .i64 x, .int .i64 y, .int .i64 z, .int .i64 u, .int .i64 g] 25)).alloc (.cells #[.int .i64 0, .int .i64 0, .int .i64 0, .int .i64 0] 23) = w1 := ⟨_, rfl⟩
  have hb : w1.heap[w.heap.size]? = some (.cells #[.int .i64 a, .int .i64 b, .int .i64 c, .int .i64 d] 23 (0, 0)) := by rw [← hw1]; exact obj_alloc (obj_alloc (heap_alloc_new w _) _) _
  have hc : w1.heap[w.heap.size + 1]? = some (.cells #[.int .i64 x, .int .i64 y, .int .i64 z, .int .i64 u, .int .i64 g] 25 (0, 0)) := by rw [← hw1]; exact obj_alloc (World.alloc_at (by simp) _) _
  have hz : w1.heap[w.heap.size + 1 + 1]? = some (.cells #[.int .i64 0, .int .i64 0, .int .i64 0, .int .i64 0] 23 (0, 0)) := by rw [← hw1]; exact World.alloc_at (by simp) _
  have HK1 := Lib.hid (show Kept No w w1 by rw [← hw1]; exact (((Kept.refl No w).alloc _).alloc _).alloc _)
  have c0 := obj_cell hb 0
  have c1 := obj_cell hb 1
  have c2 := obj_cell hb 2
  have c3 := obj_cell hb 3
  have d0 := obj_cell hc 0
  have d1 := obj_cell hc 1
  have d2 := obj_cell hc 2
  have d3 := obj_cell hc 3
  have d4 := obj_cell hc 4
  have HB := Lib.hid hb
  have HC := Lib.hid hc
  have HZ := Lib.hid hz
  clear hb hc hz
  go_enter Tryd.func26, Tryd.ntmps26
  go_wp2_with fail
  refine (valid_any a b c d _).mono ?_
  rintro e w2 ⟨rfl, hk⟩
  have hb := hk.obj HB.out (not_no _)
  have hc := hk.obj HC.out (not_no _)
  have hz := hk.obj HZ.out (not_no _)
  have c0 := obj_cell hb 0
  have c1 := obj_cell hb 1
  have c2 := obj_cell hb 2
  have c3 := obj_cell hb 3
  have d0 := obj_cell hc 0
  have d1 := obj_cell hc 1
  have d2 := obj_cell hc 2
  have d3 := obj_cell hc 3
  have d4 := obj_cell hc 4
  have z0 := obj_cell hz 0
  have z1 := obj_cell hz 1
  have z2 := obj_cell hz 2
  have z3 := obj_cell hz 3
  have f0 := obj_free hz 0
  have f1 := obj_free hz 1
  have f2 := obj_free hz 2
  have f3 := obj_free hz 3
  have HB2 := Lib.hid hb
  have HC2 := Lib.hid hc
  have HZ2 := Lib.hid hz
  have HK2 := Lib.hid (HK1.out.and hk)
  clear hb hc hz hk
  rw [h]
  go_wp2_with fail
  have k1 := obj_store (obj_store (obj_store (obj_store HZ2.out 0 (.int .i64 0)) 1 (.int .i64 0)) 2 (.int .i64 0)) 3 (.int .i64 0)
  refine bodyPost_ret (results26 rfl rfl k1 rfl) rfl ⟨rfl, ?_⟩
  have hn : ∀ (h : w.heap.size + 1 + 1 < w.heap.size), No (w.heap.size + 1 + 1) := fun h => by omega
  exact ((((HK2.out).setCell (p := ⟨w.heap.size + 1 + 1, 0, none⟩) hn _).setCell (p := ⟨w.heap.size + 1 + 1, 1, none⟩) hn _).setCell (p := ⟨w.heap.size + 1 + 1, 2, none⟩) hn _).setCell (p := ⟨w.heap.size + 1 + 1, 3, none⟩) hn _
set_option maxRecDepth 100000 in
theorem pay_bad2 (a b c d x y z u g : Int) (w : World) (h : in4 99 a b c d = true) (h2 : cost x y z u g = false) : Calls Tryd.prog 26 #[.agg #[.int .i64 a, .int .i64 b, .int .i64 c, .int .i64 d], .agg #[.int .i64 x, .int .i64 y, .int .i64 z, .int .i64 u, .int .i64 g]] w fun e w' => e = .returned (.tuple #[.agg #[.int .i64 0, .int .i64 0, .int .i64 0, .int .i64 0], .int .i64 2]) ∧ Kept No w w' := by
  obtain ⟨w1, hw1⟩ : ∃ w1, ((w.alloc (.cells #[.int .i64 a, .int .i64 b, .int .i64 c, .int .i64 d] 23)).alloc (.cells #[.int .i64 x, .int .i64 y, .int .i64 z, .int .i64 u, .int .i64 g] 25)).alloc (.cells #[.int .i64 0, .int .i64 0, .int .i64 0, .int .i64 0] 23) = w1 := ⟨_, rfl⟩
  have hb : w1.heap[w.heap.size]? = some (.cells #[.int .i64 a, .int .i64 b, .int .i64 c, .int .i64 d] 23 (0, 0)) := by rw [← hw1]; exact obj_alloc (obj_alloc (heap_alloc_new w _) _) _
  have hc : w1.heap[w.heap.size + 1]? = some (.cells #[.int .i64 x, .int .i64 y, .int .i64 z, .int .i64 u, .int .i64 g] 25 (0, 0)) := by rw [← hw1]; exact obj_alloc (World.alloc_at (by simp) _) _
  have hz : w1.heap[w.heap.size + 1 + 1]? = some (.cells #[.int .i64 0, .int .i64 0, .int .i64 0, .int .i64 0] 23 (0, 0)) := by rw [← hw1]; exact World.alloc_at (by simp) _
  have HK1 := Lib.hid (show Kept No w w1 by rw [← hw1]; exact (((Kept.refl No w).alloc _).alloc _).alloc _)
  have c0 := obj_cell hb 0
  have c1 := obj_cell hb 1
  have c2 := obj_cell hb 2
  have c3 := obj_cell hb 3
  have d0 := obj_cell hc 0
  have d1 := obj_cell hc 1
  have d2 := obj_cell hc 2
  have d3 := obj_cell hc 3
  have d4 := obj_cell hc 4
  have HB := Lib.hid hb
  have HC := Lib.hid hc
  have HZ := Lib.hid hz
  clear hb hc hz
  go_enter Tryd.func26, Tryd.ntmps26
  go_wp2_with fail
  refine (valid_any a b c d _).mono ?_
  rintro e w2 ⟨rfl, hk⟩
  have hb := hk.obj HB.out (not_no _)
  have hc := hk.obj HC.out (not_no _)
  have hz := hk.obj HZ.out (not_no _)
  have c0 := obj_cell hb 0
  have c1 := obj_cell hb 1
  have c2 := obj_cell hb 2
  have c3 := obj_cell hb 3
  have d0 := obj_cell hc 0
  have d1 := obj_cell hc 1
  have d2 := obj_cell hc 2
  have d3 := obj_cell hc 3
  have d4 := obj_cell hc 4
  have HB2 := Lib.hid hb
  have HC2 := Lib.hid hc
  have HZ2 := Lib.hid hz
  have HK2 := Lib.hid (HK1.out.and hk)
  clear hb hc hz hk
  rw [h]
  go_wp2_with fail
  refine (validCost_any x y z u g _).mono ?_
  rintro e w3 ⟨rfl, hk⟩
  have hb := hk.obj HB2.out (not_no _)
  have hc := hk.obj HC2.out (not_no _)
  have hz := hk.obj HZ2.out (not_no _)
  have c0 := obj_cell hb 0
  have c1 := obj_cell hb 1
  have c2 := obj_cell hb 2
  have c3 := obj_cell hb 3
  have d0 := obj_cell hc 0
  have d1 := obj_cell hc 1
  have d2 := obj_cell hc 2
  have d3 := obj_cell hc 3
  have d4 := obj_cell hc 4
  have z0 := obj_cell hz 0
  have z1 := obj_cell hz 1
  have z2 := obj_cell hz 2
  have z3 := obj_cell hz 3
  have f0 := obj_free hz 0
  have f1 := obj_free hz 1
  have f2 := obj_free hz 2
  have f3 := obj_free hz 3
  have HB3 := Lib.hid hb
  have HC3 := Lib.hid hc
  have HZ3 := Lib.hid hz
  have HK3 := Lib.hid (HK2.out.and hk)
  clear hb hc hz hk
  rw [h2]
  go_wp2_with fail
  have k1 := obj_store (obj_store (obj_store (obj_store HZ3.out 0 (.int .i64 0)) 1 (.int .i64 0)) 2 (.int .i64 0)) 3 (.int .i64 0)
  refine bodyPost_ret (results26 rfl rfl k1 rfl) rfl ⟨rfl, ?_⟩
  have hn : ∀ (h : w.heap.size + 1 + 1 < w.heap.size), No (w.heap.size + 1 + 1) := fun h => by omega
  exact ((((HK3.out).setCell (p := ⟨w.heap.size + 1 + 1, 0, none⟩) hn _).setCell (p := ⟨w.heap.size + 1 + 1, 1, none⟩) hn _).setCell (p := ⟨w.heap.size + 1 + 1, 2, none⟩) hn _).setCell (p := ⟨w.heap.size + 1 + 1, 3, none⟩) hn _
set_option maxRecDepth 100000 in
theorem pay_no (a b c d x y z u g : Int) (w : World) (h : in4 99 a b c d = true) (h2 : cost x y z u g = true) (h3 : canB a b c d x y z u g = false) : Calls Tryd.prog 26 #[.agg #[.int .i64 a, .int .i64 b, .int .i64 c, .int .i64 d], .agg #[.int .i64 x, .int .i64 y, .int .i64 z, .int .i64 u, .int .i64 g]] w fun e w' => e = .returned (.tuple #[.agg #[.int .i64 0, .int .i64 0, .int .i64 0, .int .i64 0], .int .i64 12]) ∧ Kept No w w' := by
  obtain ⟨w1, hw1⟩ : ∃ w1, ((w.alloc (.cells #[.int .i64 a, .int .i64 b, .int .i64 c, .int .i64 d] 23)).alloc (.cells #[.int .i64 x, .int .i64 y, .int .i64 z, .int .i64 u, .int .i64 g] 25)).alloc (.cells #[.int .i64 0, .int .i64 0, .int .i64 0, .int .i64 0] 23) = w1 := ⟨_, rfl⟩
  have hb : w1.heap[w.heap.size]? = some (.cells #[.int .i64 a, .int .i64 b, .int .i64 c, .int .i64 d] 23 (0, 0)) := by rw [← hw1]; exact obj_alloc (obj_alloc (heap_alloc_new w _) _) _
  have hc : w1.heap[w.heap.size + 1]? = some (.cells #[.int .i64 x, .int .i64 y, .int .i64 z, .int .i64 u, .int .i64 g] 25 (0, 0)) := by rw [← hw1]; exact obj_alloc (World.alloc_at (by simp) _) _
  have hz : w1.heap[w.heap.size + 1 + 1]? = some (.cells #[.int .i64 0, .int .i64 0, .int .i64 0, .int .i64 0] 23 (0, 0)) := by rw [← hw1]; exact World.alloc_at (by simp) _
  have HK1 := Lib.hid (show Kept No w w1 by rw [← hw1]; exact (((Kept.refl No w).alloc _).alloc _).alloc _)
  have c0 := obj_cell hb 0
  have c1 := obj_cell hb 1
  have c2 := obj_cell hb 2
  have c3 := obj_cell hb 3
  have d0 := obj_cell hc 0
  have d1 := obj_cell hc 1
  have d2 := obj_cell hc 2
  have d3 := obj_cell hc 3
  have d4 := obj_cell hc 4
  have HB := Lib.hid hb
  have HC := Lib.hid hc
  have HZ := Lib.hid hz
  clear hb hc hz
  go_enter Tryd.func26, Tryd.ntmps26
  go_wp2_with fail
  refine (valid_any a b c d _).mono ?_
  rintro e w2 ⟨rfl, hk⟩
  have hb := hk.obj HB.out (not_no _)
  have hc := hk.obj HC.out (not_no _)
  have hz := hk.obj HZ.out (not_no _)
  have c0 := obj_cell hb 0
  have c1 := obj_cell hb 1
  have c2 := obj_cell hb 2
  have c3 := obj_cell hb 3
  have d0 := obj_cell hc 0
  have d1 := obj_cell hc 1
  have d2 := obj_cell hc 2
  have d3 := obj_cell hc 3
  have d4 := obj_cell hc 4
  have HB2 := Lib.hid hb
  have HC2 := Lib.hid hc
  have HZ2 := Lib.hid hz
  have HK2 := Lib.hid (HK1.out.and hk)
  clear hb hc hz hk
  rw [h]
  go_wp2_with fail
  refine (validCost_any x y z u g _).mono ?_
  rintro e w3 ⟨rfl, hk⟩
  have hb := hk.obj HB2.out (not_no _)
  have hc := hk.obj HC2.out (not_no _)
  have hz := hk.obj HZ2.out (not_no _)
  have c0 := obj_cell hb 0
  have c1 := obj_cell hb 1
  have c2 := obj_cell hb 2
  have c3 := obj_cell hb 3
  have d0 := obj_cell hc 0
  have d1 := obj_cell hc 1
  have d2 := obj_cell hc 2
  have d3 := obj_cell hc 3
  have d4 := obj_cell hc 4
  have HB3 := Lib.hid hb
  have HC3 := Lib.hid hc
  have HZ3 := Lib.hid hz
  have HK3 := Lib.hid (HK2.out.and hk)
  clear hb hc hz hk
  rw [h2]
  go_wp2_with fail
  refine (can_any a b c d x y z u g _).mono ?_
  rintro e w4 ⟨rfl, hk⟩
  have hb := hk.obj HB3.out (not_no _)
  have hc := hk.obj HC3.out (not_no _)
  have hz := hk.obj HZ3.out (not_no _)
  have c0 := obj_cell hb 0
  have c1 := obj_cell hb 1
  have c2 := obj_cell hb 2
  have c3 := obj_cell hb 3
  have d0 := obj_cell hc 0
  have d1 := obj_cell hc 1
  have d2 := obj_cell hc 2
  have d3 := obj_cell hc 3
  have d4 := obj_cell hc 4
  have z0 := obj_cell hz 0
  have z1 := obj_cell hz 1
  have z2 := obj_cell hz 2
  have z3 := obj_cell hz 3
  have f0 := obj_free hz 0
  have f1 := obj_free hz 1
  have f2 := obj_free hz 2
  have f3 := obj_free hz 3
  have HB4 := Lib.hid hb
  have HC4 := Lib.hid hc
  have HZ4 := Lib.hid hz
  have HK4 := Lib.hid (HK3.out.and hk)
  clear hb hc hz hk
  rw [h3]
  go_wp2_with fail
  have k1 := obj_store (obj_store (obj_store (obj_store HZ4.out 0 (.int .i64 0)) 1 (.int .i64 0)) 2 (.int .i64 0)) 3 (.int .i64 0)
  refine bodyPost_ret (results26 rfl rfl k1 rfl) rfl ⟨rfl, ?_⟩
  have hn : ∀ (h : w.heap.size + 1 + 1 < w.heap.size), No (w.heap.size + 1 + 1) := fun h => by omega
  exact ((((HK4.out).setCell (p := ⟨w.heap.size + 1 + 1, 0, none⟩) hn _).setCell (p := ⟨w.heap.size + 1 + 1, 1, none⟩) hn _).setCell (p := ⟨w.heap.size + 1 + 1, 2, none⟩) hn _).setCell (p := ⟨w.heap.size + 1 + 1, 3, none⟩) hn _
set_option maxRecDepth 100000 in
set_option maxHeartbeats 4000000 in
theorem pay_ok (a b c d x y z u g : Int) (w : World) (h3 : canB a b c d x y z u g = true) : Calls Tryd.prog 26 #[.agg #[.int .i64 a, .int .i64 b, .int .i64 c, .int .i64 d], .agg #[.int .i64 x, .int .i64 y, .int .i64 z, .int .i64 u, .int .i64 g]] w fun e w' => e = .returned (.tuple #[.agg #[.int .i64 ((itr g.toNat (subM ⟨a, b, c, d⟩ ⟨x, y, z, u⟩)).a), .int .i64 ((itr g.toNat (subM ⟨a, b, c, d⟩ ⟨x, y, z, u⟩)).b), .int .i64 ((itr g.toNat (subM ⟨a, b, c, d⟩ ⟨x, y, z, u⟩)).c), .int .i64 ((itr g.toNat (subM ⟨a, b, c, d⟩ ⟨x, y, z, u⟩)).d)], .int .i64 0]) ∧ Kept No w w' := by
  obtain ⟨h, h2, hle, hsu⟩ := canB_out h3
  obtain ⟨⟨a1, a2⟩, ⟨b1, b2⟩, ⟨e1, e2⟩, ⟨d1, d2⟩⟩ := in4_out h
  obtain ⟨hX, g1, g2⟩ := cost_out h2
  obtain ⟨⟨x1, x2⟩, ⟨y1, y2⟩, ⟨z1, z2⟩, ⟨u1, u2⟩⟩ := in4_out hX
  obtain ⟨G, rfl⟩ : ∃ G : Nat, g = (G : Nat) := ⟨g.toNat, by omega⟩
  have HSTEP := Lib.hid (itr_step (subM ⟨a, b, c, d⟩ ⟨x, y, z, u⟩) (nn_sub hle))
  have HSU := Lib.hid hsu
  have hl2 : x ≤ a ∧ y ≤ b ∧ z ≤ c ∧ u ≤ d := hle
  obtain ⟨l1, l2, l3, l4⟩ := hl2
  clear hX hle hsu
  obtain ⟨w1, hw1⟩ : ∃ w1, ((w.alloc (.cells #[.int .i64 a, .int .i64 b, .int .i64 c, .int .i64 d] 23)).alloc (.cells #[.int .i64 x, .int .i64 y, .int .i64 z, .int .i64 u, .int .i64 (G : Nat)] 25)).alloc (.cells #[.int .i64 0, .int .i64 0, .int .i64 0, .int .i64 0] 23) = w1 := ⟨_, rfl⟩
  have hb : w1.heap[w.heap.size]? = some (.cells #[.int .i64 a, .int .i64 b, .int .i64 c, .int .i64 d] 23 (0, 0)) := by rw [← hw1]; exact obj_alloc (obj_alloc (heap_alloc_new w _) _) _
  have hc : w1.heap[w.heap.size + 1]? = some (.cells #[.int .i64 x, .int .i64 y, .int .i64 z, .int .i64 u, .int .i64 (G : Nat)] 25 (0, 0)) := by rw [← hw1]; exact obj_alloc (World.alloc_at (by simp) _) _
  have hz : w1.heap[w.heap.size + 1 + 1]? = some (.cells #[.int .i64 0, .int .i64 0, .int .i64 0, .int .i64 0] 23 (0, 0)) := by rw [← hw1]; exact World.alloc_at (by simp) _
  have HK1 := Lib.hid (show Kept No w w1 by rw [← hw1]; exact (((Kept.refl No w).alloc _).alloc _).alloc _)
  have c0 := obj_cell hb 0
  have c1 := obj_cell hb 1
  have c2 := obj_cell hb 2
  have c3 := obj_cell hb 3
  have d0 := obj_cell hc 0
  have d1 := obj_cell hc 1
  have d2 := obj_cell hc 2
  have d3 := obj_cell hc 3
  have d4 := obj_cell hc 4
  have HB := Lib.hid hb
  have HC := Lib.hid hc
  have HZ := Lib.hid hz
  clear hb hc hz
  go_enter Tryd.func26, Tryd.ntmps26
  go_wp2_with fail
  refine (valid_any a b c d _).mono ?_
  rintro e w2 ⟨rfl, hk⟩
  have hb := hk.obj HB.out (not_no _)
  have hc := hk.obj HC.out (not_no _)
  have hz := hk.obj HZ.out (not_no _)
  have c0 := obj_cell hb 0
  have c1 := obj_cell hb 1
  have c2 := obj_cell hb 2
  have c3 := obj_cell hb 3
  have d0 := obj_cell hc 0
  have d1 := obj_cell hc 1
  have d2 := obj_cell hc 2
  have d3 := obj_cell hc 3
  have d4 := obj_cell hc 4
  have HB2 := Lib.hid hb
  have HC2 := Lib.hid hc
  have HZ2 := Lib.hid hz
  have HK2 := Lib.hid (HK1.out.and hk)
  clear hb hc hz hk
  rw [h]
  go_wp2_with fail
  refine (validCost_any x y z u (G : Nat) _).mono ?_
  rintro e w3 ⟨rfl, hk⟩
  have hb := hk.obj HB2.out (not_no _)
  have hc := hk.obj HC2.out (not_no _)
  have hz := hk.obj HZ2.out (not_no _)
  have c0 := obj_cell hb 0
  have c1 := obj_cell hb 1
  have c2 := obj_cell hb 2
  have c3 := obj_cell hb 3
  have d0 := obj_cell hc 0
  have d1 := obj_cell hc 1
  have d2 := obj_cell hc 2
  have d3 := obj_cell hc 3
  have d4 := obj_cell hc 4
  have HB3 := Lib.hid hb
  have HC3 := Lib.hid hc
  have HZ3 := Lib.hid hz
  have HK3 := Lib.hid (HK2.out.and hk)
  clear hb hc hz hk
  rw [h2]
  go_wp2_with fail
  refine (can_any a b c d x y z u (G : Nat) _).mono ?_
  rintro e w4 ⟨rfl, hk⟩
  have hb := hk.obj HB3.out (not_no _)
  have hc := hk.obj HC3.out (not_no _)
  have hz := hk.obj HZ3.out (not_no _)
  have c0 := obj_cell hb 0
  have c1 := obj_cell hb 1
  have c2 := obj_cell hb 2
  have c3 := obj_cell hb 3
  have d0 := obj_cell hc 0
  have d1 := obj_cell hc 1
  have d2 := obj_cell hc 2
  have d3 := obj_cell hc 3
  have d4 := obj_cell hc 4
  have HB4 := Lib.hid hb
  have HC4 := Lib.hid hc
  have HZ4 := Lib.hid hz
  have HK4 := Lib.hid (HK3.out.and hk)
  clear hb hc hz hk
  rw [h3]
  clear h h2 h3
  have i0 := idx0 x y z u
  have i1 := idx1 x y z u
  have i2 := idx2 x y z u
  have i3 := idx3 x y z u
  go_wp2_with fail
  go_loopw [28] (fun i wr => ∃ k : Nat, i = .int .i64 (k : Nat) ∧ k ≤ 4 ∧ PW (sK ⟨a, b, c, d⟩ ⟨x, y, z, u⟩ k) x y z u (G : Nat) w wr) (fun i _ => 4 - (intOf i).toNat)
  case atStart => exact ⟨0, rfl, by decide, HB4.out, HC4.out, HZ4.out, HK4.out⟩
  case round =>
    obtain ⟨k, rfl, hk4, hp⟩ := hrel
    obtain rfl | rfl | rfl | rfl | rfl : k = 0 ∨ k = 1 ∨ k = 2 ∨ k = 3 ∨ k = 4 := by omega
    · have c0 : wr.cell? ⟨w.heap.size, 0, none⟩ = some (.int .i64 a) := obj_cell hp.hm 0
      have fm : wr.frozen? ⟨w.heap.size, 0, none⟩ = false := obj_free hp.hm 0
      have HP := Lib.hid hp
      clear hp
      go_wp2_with fail
      exact ⟨⟨1, by go_num, by decide, HP.out.put 0 (by decide) _⟩, by simp [intOf]⟩
    · have c1 : wr.cell? ⟨w.heap.size, 1, none⟩ = some (.int .i64 b) := obj_cell hp.hm 1
      have fm : wr.frozen? ⟨w.heap.size, 1, none⟩ = false := obj_free hp.hm 1
      have HP := Lib.hid hp
      clear hp
      go_wp2_with fail
      exact ⟨⟨2, by go_num, by decide, HP.out.put 1 (by decide) _⟩, by simp [intOf]⟩
    · have c2 : wr.cell? ⟨w.heap.size, 2, none⟩ = some (.int .i64 c) := obj_cell hp.hm 2
      have fm : wr.frozen? ⟨w.heap.size, 2, none⟩ = false := obj_free hp.hm 2
      have HP := Lib.hid hp
      clear hp
      go_wp2_with fail
      exact ⟨⟨3, by go_num, by decide, HP.out.put 2 (by decide) _⟩, by simp [intOf]⟩
    · have c3 : wr.cell? ⟨w.heap.size, 3, none⟩ = some (.int .i64 d) := obj_cell hp.hm 3
      have fm : wr.frozen? ⟨w.heap.size, 3, none⟩ = false := obj_free hp.hm 3
      have HP := Lib.hid hp
      clear hp
      go_wp2_with fail
      exact ⟨⟨4, by go_num, by decide, HP.out.put 3 (by decide) _⟩, by simp [intOf]⟩
    · obtain ⟨s, hs⟩ : ∃ s, subM ⟨a, b, c, d⟩ ⟨x, y, z, u⟩ = s := ⟨_, rfl⟩
      have hp' : PW s x y z u (G : Nat) w wr := by rw [← hs]; exact hp
      have d4 : wr.cell? ⟨w.heap.size + 1, 4, none⟩ = some (.int .i64 (G : Nat)) := obj_cell hp.hc 4
      have hst := HSTEP.out
      have hsu := HSU.out
      rw [hs] at hst hsu
      have hsb : s.a ≤ 99 ∧ s.b ≤ 99 ∧ s.c ≤ 99 ∧ s.d ≤ 99 := by rw [← hs]; simp only [subM]; omega
      have HST := Lib.hid hst
      have HSU2 := Lib.hid hsu
      have HSB := Lib.hid hsb
      have HS := Lib.hid hs
      have HP := Lib.hid hp'
      clear hp hp' hst hsu hsb hs HSTEP HSU i0 i1 i2 i3 hk4
      go_wp2_with fail
      go_loopw [41] (fun i wr => ∃ n : Nat, i = .int .i64 (n : Nat) ∧ n ≤ G ∧ PW (itr n s) x y z u (G : Nat) w wr) (fun i _ => G - (intOf i).toNat)
      case atStart => exact ⟨0, rfl, Nat.zero_le _, HP.out⟩
      case round =>
        obtain ⟨n, rfl, hn, hp⟩ := hrel
        obtain ⟨v, hv⟩ : ∃ v, itr n s = v := ⟨_, rfl⟩
        have hst := HST.out n (by have := HSU2.out; omega)
        have hsb := HSB.out
        rw [hv] at hp hst
        have hvb : (0 ≤ v.a ∧ v.a ≤ 99) ∧ (0 ≤ v.b ∧ v.b ≤ 99) ∧ (0 ≤ v.c ∧ v.c ≤ 99) ∧ (0 ≤ v.d ∧ v.d ≤ 99) := by
          obtain ⟨t1, t2, _⟩ := hst
          unfold Nn Le at *
          omega
        have HV := Lib.hid hv
        clear hv hst hsb
        obtain ⟨p, q, r, t⟩ := v
        obtain ⟨⟨p0, p1⟩, ⟨q0, q1⟩, ⟨r0, r1⟩, ⟨t0, t1⟩⟩ := hvb
        have c0 : wr.cell? ⟨w.heap.size, 0, none⟩ = some (.int .i64 p) := obj_cell hp.hm 0
        have c1 : wr.cell? ⟨w.heap.size, 1, none⟩ = some (.int .i64 q) := obj_cell hp.hm 1
        have c2 : wr.cell? ⟨w.heap.size, 2, none⟩ = some (.int .i64 r) := obj_cell hp.hm 2
        have c3 : wr.cell? ⟨w.heap.size, 3, none⟩ = some (.int .i64 t) := obj_cell hp.hm 3
        have HP := Lib.hid hp
        clear hp
        by_cases hlt : n < G
        · go_wp2_with fail
          go_loopw [43, 8] (fun i j wi => ∃ k jj : Nat, i = .int .i64 (k : Nat) ∧ k ≤ 4 ∧ j = .int .i64 (jj : Nat) ∧ jj = mxk ⟨p, q, r, t⟩ k ∧ PW ⟨p, q, r, t⟩ x y z u (G : Nat) w wi) (fun i _ _ => 4 - (intOf i).toNat)
          case atStart => exact ⟨0, 0, rfl, by decide, rfl, rfl, HP.out⟩
          case round =>
            obtain ⟨k, jj, rfl, hk4, rfl, hj, hp⟩ := hrel
            have c0 : wr.cell? ⟨w.heap.size, 0, none⟩ = some (.int .i64 p) := obj_cell hp.hm 0
            have c1 : wr.cell? ⟨w.heap.size, 1, none⟩ = some (.int .i64 q) := obj_cell hp.hm 1
            have c2 : wr.cell? ⟨w.heap.size, 2, none⟩ = some (.int .i64 r) := obj_cell hp.hm 2
            have c3 : wr.cell? ⟨w.heap.size, 3, none⟩ = some (.int .i64 t) := obj_cell hp.hm 3
            have HPI := Lib.hid hp
            clear hp
            obtain rfl | rfl | rfl | rfl | rfl : k = 0 ∨ k = 1 ∨ k = 2 ∨ k = 3 ∨ k = 4 := by omega
            · obtain rfl : jj = 0 := by rw [hj]; simp [mxk]
              clear hj
              have HMK := Lib.hid (show 0 = mxk ⟨p, q, r, t⟩ 1 by simp [mxk])
              go_wp2_with fail
              go_quiet (fail)
              all_goals go_wp2_with fail
              all_goals exact ⟨⟨1, 0, by go_num, by decide, by go_num, HMK.out, HPI.out.drewN _⟩, by simp [intOf]⟩
            · obtain rfl : jj = 0 := by rw [hj]; simp [mxk]
              clear hj
              by_cases h1 : p < q
              · have HMK := Lib.hid (show 1 = mxk ⟨p, q, r, t⟩ 2 by simp [mxk, h1])
                go_wp2_with fail
                go_quiet (fail)
                all_goals go_wp2_with fail
                all_goals exact ⟨⟨2, 1, by go_num, by decide, by go_num, HMK.out, HPI.out.drewN _⟩, by simp [intOf]⟩
              · have HMK := Lib.hid (show 0 = mxk ⟨p, q, r, t⟩ 2 by simp [mxk, h1])
                go_wp2_with fail
                go_quiet (fail)
                all_goals go_wp2_with fail
                all_goals exact ⟨⟨2, 0, by go_num, by decide, by go_num, HMK.out, HPI.out.drewN _⟩, by simp [intOf]⟩
            · by_cases h1 : p < q
              · obtain rfl : jj = 1 := by rw [hj]; simp [mxk, h1]
                clear hj
                by_cases h2 : q < r
                · have HMK := Lib.hid (show 2 = mxk ⟨p, q, r, t⟩ 3 by simp [mxk, h1, h2])
                  go_wp2_with fail
                  go_quiet (fail)
                  all_goals go_wp2_with fail
                  all_goals exact ⟨⟨3, 2, by go_num, by decide, by go_num, HMK.out, HPI.out.drewN _⟩, by simp [intOf]⟩
                · have HMK := Lib.hid (show 1 = mxk ⟨p, q, r, t⟩ 3 by simp [mxk, h1, h2])
                  go_wp2_with fail
                  go_quiet (fail)
                  all_goals go_wp2_with fail
                  all_goals exact ⟨⟨3, 1, by go_num, by decide, by go_num, HMK.out, HPI.out.drewN _⟩, by simp [intOf]⟩
              · obtain rfl : jj = 0 := by rw [hj]; simp [mxk, h1]
                clear hj
                by_cases h2 : p < r
                · have HMK := Lib.hid (show 2 = mxk ⟨p, q, r, t⟩ 3 by simp [mxk, h1, h2])
                  go_wp2_with fail
                  go_quiet (fail)
                  all_goals go_wp2_with fail
                  all_goals exact ⟨⟨3, 2, by go_num, by decide, by go_num, HMK.out, HPI.out.drewN _⟩, by simp [intOf]⟩
                · have HMK := Lib.hid (show 0 = mxk ⟨p, q, r, t⟩ 3 by simp [mxk, h1, h2])
                  go_wp2_with fail
                  go_quiet (fail)
                  all_goals go_wp2_with fail
                  all_goals exact ⟨⟨3, 0, by go_num, by decide, by go_num, HMK.out, HPI.out.drewN _⟩, by simp [intOf]⟩
            · by_cases h1 : p < q
              · by_cases h2 : q < r
                · obtain rfl : jj = 2 := by rw [hj]; simp [mxk, h1, h2]
                  clear hj
                  by_cases h3 : r < t
                  · have HMK := Lib.hid (show 3 = mxk ⟨p, q, r, t⟩ 4 by simp [mxk, h1, h2, h3])
                    go_wp2_with fail
                    go_quiet (fail)
                    all_goals go_wp2_with fail
                    all_goals exact ⟨⟨4, 3, by go_num, by decide, by go_num, HMK.out, HPI.out.drewN _⟩, by simp [intOf]⟩
                  · have HMK := Lib.hid (show 2 = mxk ⟨p, q, r, t⟩ 4 by simp [mxk, h1, h2, h3])
                    go_wp2_with fail
                    go_quiet (fail)
                    all_goals go_wp2_with fail
                    all_goals exact ⟨⟨4, 2, by go_num, by decide, by go_num, HMK.out, HPI.out.drewN _⟩, by simp [intOf]⟩
                · obtain rfl : jj = 1 := by rw [hj]; simp [mxk, h1, h2]
                  clear hj
                  by_cases h3 : q < t
                  · have HMK := Lib.hid (show 3 = mxk ⟨p, q, r, t⟩ 4 by simp [mxk, h1, h2, h3])
                    go_wp2_with fail
                    go_quiet (fail)
                    all_goals go_wp2_with fail
                    all_goals exact ⟨⟨4, 3, by go_num, by decide, by go_num, HMK.out, HPI.out.drewN _⟩, by simp [intOf]⟩
                  · have HMK := Lib.hid (show 1 = mxk ⟨p, q, r, t⟩ 4 by simp [mxk, h1, h2, h3])
                    go_wp2_with fail
                    go_quiet (fail)
                    all_goals go_wp2_with fail
                    all_goals exact ⟨⟨4, 1, by go_num, by decide, by go_num, HMK.out, HPI.out.drewN _⟩, by simp [intOf]⟩
              · by_cases h2 : p < r
                · obtain rfl : jj = 2 := by rw [hj]; simp [mxk, h1, h2]
                  clear hj
                  by_cases h3 : r < t
                  · have HMK := Lib.hid (show 3 = mxk ⟨p, q, r, t⟩ 4 by simp [mxk, h1, h2, h3])
                    go_wp2_with fail
                    go_quiet (fail)
                    all_goals go_wp2_with fail
                    all_goals exact ⟨⟨4, 3, by go_num, by decide, by go_num, HMK.out, HPI.out.drewN _⟩, by simp [intOf]⟩
                  · have HMK := Lib.hid (show 2 = mxk ⟨p, q, r, t⟩ 4 by simp [mxk, h1, h2, h3])
                    go_wp2_with fail
                    go_quiet (fail)
                    all_goals go_wp2_with fail
                    all_goals exact ⟨⟨4, 2, by go_num, by decide, by go_num, HMK.out, HPI.out.drewN _⟩, by simp [intOf]⟩
                · obtain rfl : jj = 0 := by rw [hj]; simp [mxk, h1, h2]
                  clear hj
                  by_cases h3 : p < t
                  · have HMK := Lib.hid (show 3 = mxk ⟨p, q, r, t⟩ 4 by simp [mxk, h1, h2, h3])
                    go_wp2_with fail
                    go_quiet (fail)
                    all_goals go_wp2_with fail
                    all_goals exact ⟨⟨4, 3, by go_num, by decide, by go_num, HMK.out, HPI.out.drewN _⟩, by simp [intOf]⟩
                  · have HMK := Lib.hid (show 0 = mxk ⟨p, q, r, t⟩ 4 by simp [mxk, h1, h2, h3])
                    go_wp2_with fail
                    go_quiet (fail)
                    all_goals go_wp2_with fail
                    all_goals exact ⟨⟨4, 0, by go_num, by decide, by go_num, HMK.out, HPI.out.drewN _⟩, by simp [intOf]⟩
            · have hmx : mx ⟨p, q, r, t⟩ = jj := hj.symm
              have fm0 := obj_free HPI.out.hm 0
              have fm1 := obj_free HPI.out.hm 1
              have fm2 := obj_free HPI.out.hm 2
              have fm3 := obj_free HPI.out.hm 3
              have hc4 := mx_cases ⟨p, q, r, t⟩
              rw [hmx] at hc4
              have hj4 : jj < 4 := by omega
              clear hc4 hj
              have HMX := Lib.hid hmx
              clear hmx
              obtain rfl | rfl | rfl | rfl : jj = 0 ∨ jj = 1 ∨ jj = 2 ∨ jj = 3 := by omega
              · go_wp2_with fail
                have e : itr (n + 1) s = Zm.put ⟨p, q, r, t⟩ 0 (p - 1) := by
                  show dec (itr n s) = _
                  rw [HV.out]
                  unfold dec
                  rw [HMX.out]
                  rfl
                have HPN : PW (itr (n + 1) s) x y z u (G : Nat) w _ := e ▸ HPI.out.put 0 (by decide) (p - 1)
                go_roundw
                case rel =>
                  (repeat apply Exists.intro)
                  exact ⟨⟨n + 1, by go_num, by omega, HPN⟩, rfl⟩
                case measure => simp [intOf]; omega
              · go_wp2_with fail
                have e : itr (n + 1) s = Zm.put ⟨p, q, r, t⟩ 1 (q - 1) := by
                  show dec (itr n s) = _
                  rw [HV.out]
                  unfold dec
                  rw [HMX.out]
                  rfl
                have HPN : PW (itr (n + 1) s) x y z u (G : Nat) w _ := e ▸ HPI.out.put 1 (by decide) (q - 1)
                go_roundw
                case rel =>
                  (repeat apply Exists.intro)
                  exact ⟨⟨n + 1, by go_num, by omega, HPN⟩, rfl⟩
                case measure => simp [intOf]; omega
              · go_wp2_with fail
                have e : itr (n + 1) s = Zm.put ⟨p, q, r, t⟩ 2 (r - 1) := by
                  show dec (itr n s) = _
                  rw [HV.out]
                  unfold dec
                  rw [HMX.out]
                  rfl
                have HPN : PW (itr (n + 1) s) x y z u (G : Nat) w _ := e ▸ HPI.out.put 2 (by decide) (r - 1)
                go_roundw
                case rel =>
                  (repeat apply Exists.intro)
                  exact ⟨⟨n + 1, by go_num, by omega, HPN⟩, rfl⟩
                case measure => simp [intOf]; omega
              · go_wp2_with fail
                have e : itr (n + 1) s = Zm.put ⟨p, q, r, t⟩ 3 (t - 1) := by
                  show dec (itr n s) = _
                  rw [HV.out]
                  unfold dec
                  rw [HMX.out]
                  rfl
                have HPN : PW (itr (n + 1) s) x y z u (G : Nat) w _ := e ▸ HPI.out.put 3 (by decide) (t - 1)
                go_roundw
                case rel =>
                  (repeat apply Exists.intro)
                  exact ⟨⟨n + 1, by go_num, by omega, HPN⟩, rfl⟩
                case measure => simp [intOf]; omega
        · obtain rfl : n = G := by omega
          have hp := HP.out
          have z0 := obj_cell hp.hz 0
          have z1 := obj_cell hp.hz 1
          have z2 := obj_cell hp.hz 2
          have z3 := obj_cell hp.hz 3
          have f0 := obj_free hp.hz 0
          have f1 := obj_free hp.hz 1
          have f2 := obj_free hp.hz 2
          have f3 := obj_free hp.hz 3
          have HZ9 := Lib.hid hp.hz
          have HK9 := Lib.hid hp.kept
          clear hp
          have hw' : itr (n : Int).toNat (subM ⟨a, b, c, d⟩ ⟨x, y, z, u⟩) = ⟨p, q, r, t⟩ := by rw [HS.out]; simpa using HV.out
          have HW := Lib.hid hw'
          clear hw'
          go_wp2_with fail
          have k1 := obj_store (obj_store (obj_store (obj_store HZ9.out 0 (.int .i64 p)) 1 (.int .i64 q)) 2 (.int .i64 r)) 3 (.int .i64 t)
          refine bodyPost_ret (results26 rfl rfl k1 rfl) rfl ⟨congrArg (fun v : M4 => Ending.returned (.tuple #[.agg #[.int .i64 v.a, .int .i64 v.b, .int .i64 v.c, .int .i64 v.d], .int .i64 0])) HW.out.symm, ?_⟩
          have hn : ∀ (h : w.heap.size + 1 + 1 < w.heap.size), No (w.heap.size + 1 + 1) := fun h => by omega
          exact ((((HK9.out).setCell (p := ⟨w.heap.size + 1 + 1, 0, none⟩) hn _).setCell (p := ⟨w.heap.size + 1 + 1, 1, none⟩) hn _).setCell (p := ⟨w.heap.size + 1 + 1, 2, none⟩) hn _).setCell (p := ⟨w.heap.size + 1 + 1, 3, none⟩) hn _
end Go.Proofs.YtogfjegedfaekaaDoor
