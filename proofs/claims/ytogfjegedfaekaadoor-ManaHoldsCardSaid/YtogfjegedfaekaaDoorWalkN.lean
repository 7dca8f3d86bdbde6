/-
  Mana: the reference's Pay.
-/
import Derived.Test.YtogfjegedfaekaaDoorWalkM
import Derived.StillTailTactics
set_option linter.unusedVariables false
set_option linter.unusedSimpArgs false
namespace Go.Proofs.YtogfjegedfaekaaDoor
open Go.RowKit Go.Zn Go.Zm
attribute [local go_sem] Oper.semAt_some

theorem mx_of {p q r t N : Int} (hN : p ≤ N ∧ q ≤ N ∧ r ≤ N ∧ t ≤ N) (k : Nat) (hk : k < 4) (e : at_ ⟨p, q, r, t⟩ k = N) (hl : ∀ j, j < k → at_ ⟨p, q, r, t⟩ j ≠ N) : mx ⟨p, q, r, t⟩ = k := by
  have hc := mx_cases ⟨p, q, r, t⟩
  simp only at hc
  have l0 := hl 0
  have l1 := hl 1
  have l2 := hl 2
  simp only [at_] at l0 l1 l2
  obtain rfl | rfl | rfl | rfl : k = 0 ∨ k = 1 ∨ k = 2 ∨ k = 3 := by omega
  all_goals (simp only [at_] at e; omega)
theorem ne_up {m : M4} {N : Int} {k : Nat} (h : ∀ j, j < k → at_ m j ≠ N) (hk : at_ m k ≠ N) : ∀ j, j < k + 1 → at_ m j ≠ N := fun j hj => by
  by_cases e : j = k
  · subst e; exact hk
  · exact h j (by omega)
set_option maxRecDepth 100000 in
set_option maxHeartbeats 1000000 in
theorem rmost_any (p q r t : Int) (w : World) (hp : (0 ≤ p ∧ p ≤ 99) ∧ (0 ≤ q ∧ q ≤ 99) ∧ (0 ≤ r ∧ r ≤ 99) ∧ (0 ≤ t ∧ t ≤ 99)) : Calls Tryd.prog 33 #[.agg #[.int .i64 p, .int .i64 q, .int .i64 r, .int .i64 t]] w fun e w' => e = .returned (.int .i64 (mx ⟨p, q, r, t⟩ : Nat)) ∧ Kept No w w' := by
  obtain ⟨w1, hw1⟩ : ∃ w1, w.alloc (.cells #[.int .i64 p, .int .i64 q, .int .i64 r, .int .i64 t] 23) = w1 := ⟨_, rfl⟩
  have hb : w1.heap[w.heap.size]? = some (.cells #[.int .i64 p, .int .i64 q, .int .i64 r, .int .i64 t] 23 (0, 0)) := by rw [← hw1]; exact heap_alloc_new w _
  have HK1 := Lib.hid (show Kept No w w1 by rw [← hw1]; exact (Kept.refl No w).alloc _)
  have c0 := obj_cell hb 0
  have c1 := obj_cell hb 1
  have c2 := obj_cell hb 2
  have c3 := obj_cell hb 3
  clear hb
  obtain ⟨⟨p0, p1⟩, ⟨q0, q1⟩, ⟨r0, r1⟩, ⟨t0, t1⟩⟩ := hp
  go_enter Tryd.func33, Tryd.ntmps33
  go_wp2_with fail
  go_loopw [3, 4] (fun n _ wr => ∃ N : Int, n = .int .i64 N ∧ 0 ≤ N ∧ N ≤ 99 ∧ (p ≤ N ∧ q ≤ N ∧ r ≤ N ∧ t ≤ N) ∧ wr = w1) (fun n _ _ => (intOf n).toNat)
  case atStart => exact ⟨99, rfl, by decide, by decide, ⟨p1, q1, r1, t1⟩, rfl⟩
  case round =>
    obtain ⟨N, rfl, n0, n1, ⟨b1, b2, b3, b4⟩, rfl⟩ := hrel
    by_cases hN : 0 < N
    · go_wp2_with fail
      go_loopw [4] (fun i wi => ∃ k : Nat, i = .int .i64 (k : Nat) ∧ k ≤ 4 ∧ (∀ j, j < k → at_ ⟨p, q, r, t⟩ j ≠ N) ∧ wi = wr) (fun i _ => 4 - (intOf i).toNat)
      case atStart => exact ⟨0, rfl, by decide, fun j h => by omega, rfl⟩
      case round =>
        obtain ⟨k, rfl, hk4, hne, rfl⟩ := hrel
        have HNE := Lib.hid hne
        clear hne
        obtain rfl | rfl | rfl | rfl | rfl : k = 0 ∨ k = 1 ∨ k = 2 ∨ k = 3 ∨ k = 4 := by omega
        · by_cases e : p = N
          · have hb : (p == N) = true := by simpa using e
            have HM := Lib.hid (mx_of ⟨b1, b2, b3, b4⟩ 0 (by decide) e HNE.out)
            clear e
            go_wp2_with fail
            go_ret
            exact ⟨by rw [HM.out]; rfl, HK1.out⟩
          · have hb : (p == N) = false := by simpa using e
            have HN := Lib.hid (ne_up (m := ⟨p, q, r, t⟩) HNE.out (show at_ ⟨p, q, r, t⟩ 0 ≠ N from e))
            clear e
            go_wp2_with fail
            exact ⟨⟨1, by go_num, by decide, HN.out, by trivial⟩, by simp [intOf]⟩
        · by_cases e : q = N
          · have hb : (q == N) = true := by simpa using e
            have HM := Lib.hid (mx_of ⟨b1, b2, b3, b4⟩ 1 (by decide) e HNE.out)
            clear e
            go_wp2_with fail
            go_ret
            exact ⟨by rw [HM.out]; rfl, HK1.out⟩
          · have hb : (q == N) = false := by simpa using e
            have HN := Lib.hid (ne_up (m := ⟨p, q, r, t⟩) HNE.out (show at_ ⟨p, q, r, t⟩ 1 ≠ N from e))
            clear e
            go_wp2_with fail
            exact ⟨⟨2, by go_num, by decide, HN.out, by trivial⟩, by simp [intOf]⟩
        · by_cases e : r = N
          · have hb : (r == N) = true := by simpa using e
            have HM := Lib.hid (mx_of ⟨b1, b2, b3, b4⟩ 2 (by decide) e HNE.out)
            clear e
            go_wp2_with fail
            go_ret
            exact ⟨by rw [HM.out]; rfl, HK1.out⟩
          · have hb : (r == N) = false := by simpa using e
            have HN := Lib.hid (ne_up (m := ⟨p, q, r, t⟩) HNE.out (show at_ ⟨p, q, r, t⟩ 2 ≠ N from e))
            clear e
            go_wp2_with fail
            exact ⟨⟨3, by go_num, by decide, HN.out, by trivial⟩, by simp [intOf]⟩
        · by_cases e : t = N
          · have hb : (t == N) = true := by simpa using e
            have HM := Lib.hid (mx_of ⟨b1, b2, b3, b4⟩ 3 (by decide) e HNE.out)
            clear e
            go_wp2_with fail
            go_ret
            exact ⟨by rw [HM.out]; rfl, HK1.out⟩
          · have hb : (t == N) = false := by simpa using e
            have HN := Lib.hid (ne_up (m := ⟨p, q, r, t⟩) HNE.out (show at_ ⟨p, q, r, t⟩ 3 ≠ N from e))
            clear e
            go_wp2_with fail
            exact ⟨⟨4, by go_num, by decide, HN.out, by trivial⟩, by simp [intOf]⟩
        · have g0 : p ≠ N := HNE.out 0 (by decide)
          have g1 : q ≠ N := HNE.out 1 (by decide)
          have g2 : r ≠ N := HNE.out 2 (by decide)
          have g3 : t ≠ N := HNE.out 3 (by decide)
          have HLE := Lib.hid (show p ≤ N - 1 ∧ q ≤ N - 1 ∧ r ≤ N - 1 ∧ t ≤ N - 1 by omega)
          clear g0 g1 g2 g3
          go_wp2_with fail
          go_roundw
          case rel => exact ⟨N - 1, rfl, by omega, by omega, HLE.out, by trivial⟩
          case measure => simp [intOf]; omega
    · obtain rfl : N = 0 := by omega
      have HM := Lib.hid (mx_of (p := p) (q := q) (r := r) (t := t) ⟨b1, b2, b3, b4⟩ 0 (by decide) (show p = 0 by omega) (fun j h => by omega))
      go_wp2_with fail
      go_ret
      exact ⟨by rw [HM.out]; rfl, HK1.out⟩
theorem results18 {W : World} {tmps : Array Value} {g : Nat} {cs : Array Value} {u : Value} (ht : tmps.getD 4 undef = .pointer (some ⟨g, 0, none⟩)) (h5 : tmps.getD 5 undef = u) (hh : W.heap[g]? = some (.cells cs 23 (0, 0))) (hs : cs.size = 4) :
    (results Tryd.f18 tmps).run Tryd.prog W = .ok (.tuple #[.agg cs, u]) W := by
  have hi : (Tryd.prog.info? 23).map (·.size) = some cs.size := by rw [hs]; kernel_rfl
  have e := run_loadVar_row (P := Tryd.prog) W g 23 23 cs (0, 0) _ hh Tryd.underlying23 rfl hi
  rw [results_cell_tmp (p := 4) (u := 5) (ty := 23) rfl, ht, h5]
  simp [asAddr, e, Result.andThen]
set_option maxRecDepth 100000 in
theorem rpay_bad1 (a b c d x y z u g : Int) (w : World) (h : in4 99 a b c d = false) : Calls Tryd.prog 18 #[.agg #[.int .i64 a, .int .i64 b, .int .i64 c, .int .i64 d], .agg #[.int .i64 x, .int .i64 y, .int .i64 z, .int .i64 u, .int .i64 g]] w fun e w' => e = .returned (.tuple #[.agg #[.int .i64 0, .int .i64 0, .int .i64 0, .int .i64 0], .int .i64 2]) ∧ Kept No w w' := by
  obtain ⟨w1, hw1⟩ : ∃ w1, ((w.alloc (.cells #[.int .i64 a, .int .i64 b, .int .i64 c, .int .i64 d] 23)).alloc (.cells #[.int .i64 x, .int .i64 y, .int .i64 z, .int .i64 u, .int .i64 g] 25)).alloc (.cells #[.int .i64 0, .int .i64 0, .int .i64 0, .int .i64 0] 23) = w1 := ⟨_, rfl⟩
  have hb : w1.heap[w.heap.size]? = some (.cells #[.int .i64 a, .int .i64 b, .int .i64 c, .int .i64 d] 23 (0, 0)) := by rw [← hw1]; exact obj_alloc (obj_alloc (heap_alloc_new w _) _) _
  have hc : w1.heap[w.heap.size + 1]? = some (.cells #[.int .i64 x, .int .i64 y, .int .i64 z, .int .i64 u, .int .i64 g] 25 (0, 0)) := by rw [← hw1]; exact obj_alloc (World.alloc_at (by simp) _) _
  have hz : w1.heap[w.heap.size + 1 + 1]? = some (.cells #[.int .i64 0, .int .i64 0, .int .i64 0, .int .i64 0] 23 (0, 0)) := by rw [← hw1]; exact World.alloc_at (by simp) _
  have HK1 := Lib.hid (show Kept No w w1 by rw [← hw1]; exact (((Kept.refl No w).alloc _).alloc _).alloc _)
  have c0 := obj_cell hb 0
  have c1 := obj_cell hb 1
  have c2 := obj_cell hb 2
  have c3 := obj_cell hb 3
  have d0 := obj_cell hc 0
  have d1 := obj_cell hc 1
  have d2 := obj_cell hc 2
  have d3 := obj_cell hc 3
  have d4 := obj_cell hc 4
  have HB := Lib.hid hb
  have HC := Lib.hid hc
  have HZ := Lib.hid hz
  clear hb hc hz
  go_enter Tryd.func18, Tryd.ntmps18
  go_wp2_with fail
  refine (rvalid_any a b c d _).mono ?_
  rintro e w2 ⟨rfl, hk⟩
  have hb := hk.obj HB.out (not_no _)
  have hc := hk.obj HC.out (not_no _)
  have hz := hk.obj HZ.out (not_no _)
  have c0 := obj_cell hb 0
  have c1 := obj_cell hb 1
  have c2 := obj_cell hb 2
  have c3 := obj_cell hb 3
  have d0 := obj_cell hc 0
  have d1 := obj_cell hc 1
  have d2 := obj_cell hc 2
  have d3 := obj_cell hc 3
  have d4 := obj_cell hc 4
  have z0 := obj_cell hz 0
  have z1 := obj_cell hz 1
  have z2 := obj_cell hz 2
  have z3 := obj_cell hz 3
  have f0 := obj_free hz 0
  have f1 := obj_free hz 1
  have f2 := obj_free hz 2
  have f3 := obj_free hz 3
  have HB2 := Lib.hid hb
  have HC2 := Lib.hid hc
  have HZ2 := Lib.hid hz
  have HK2 := Lib.hid (HK1.out.and hk)
  clear hb hc hz hk
  rw [h]
  go_wp2_with fail
  have k1 := obj_store (obj_store (obj_store (obj_store HZ2.out 0 (.int .i64 0)) 1 (.int .i64 0)) 2 (.int .i64 0)) 3 (.int .i64 0)
  refine bodyPost_ret (results18 rfl rfl k1 rfl) rfl ⟨rfl, ?_⟩
  have hn : ∀ (h : w.heap.size + 1 + 1 < w.heap.size), No (w.heap.size + 1 + 1) := fun h => by omega
  exact ((((HK2.out).setCell (p := ⟨w.heap.size + 1 + 1, 0, none⟩) hn _).setCell (p := ⟨w.heap.size + 1 + 1, 1, none⟩) hn _).setCell (p := ⟨w.heap.size + 1 + 1, 2, none⟩) hn _).setCell (p := ⟨w.heap.size + 1 + 1, 3, none⟩) hn _
set_option maxRecDepth 100000 in
theorem rpay_bad2 (a b c d x y z u g : Int) (w : World) (h : in4 99 a b c d = true) (h2 : cost x y z u g = false) : Calls Tryd.prog 18 #[.agg #[.int .i64 a, .int .i64 b, .int .i64 c, .int .i64 d], .agg #[.int .i64 x, .int .i64 y, .int .i64 z, .int .i64 u, .int .i64 g]] w fun e w' => e = .returned (.tuple #[.agg #[.int .i64 0, .int .i64 0, .int .i64 0, .int .i64 0], .int .i64 2]) ∧ Kept No w w' := by
  obtain ⟨w1, hw1⟩ : ∃ w1, ((w.alloc (.cells #[.int .i64 a, .int .i64 b, .int .i64 c, .int .i64 d] 23)).alloc (.cells #[.int .i64 x, .int .i64 y, .int .i64 z, .int .i64 u, .int .i64 g] 25)).alloc (.cells #[.int .i64 0, .int .i64 0, .int .i64 0, .int .i64 0] 23) = w1 := ⟨_, rfl⟩
  have hb : w1.heap[w.heap.size]? = some (.cells #[.int .i64 a, .int .i64 b, .int .i64 c, .int .i64 d] 23 (0, 0)) := by rw [← hw1]; exact obj_alloc (obj_alloc (heap_alloc_new w _) _) _
  have hc : w1.heap[w.heap.size + 1]? = some (.cells #[.int .i64 x, .int .i64 y, .int .i64 z, .int .i64 u, .int .i64 g] 25 (0, 0)) := by rw [← hw1]; exact obj_alloc (World.alloc_at (by simp) _) _
  have hz : w1.heap[w.heap.size + 1 + 1]? = some (.cells #[.int .i64 0, .int .i64 0, .int .i64 0, .int .i64 0] 23 (0, 0)) := by rw [← hw1]; exact World.alloc_at (by simp) _
  have HK1 := Lib.hid (show Kept No w w1 by rw [← hw1]; exact (((Kept.refl No w).alloc _).alloc _).alloc _)
  have c0 := obj_cell hb 0
  have c1 := obj_cell hb 1
  have c2 := obj_cell hb 2
  have c3 := obj_cell hb 3
  have d0 := obj_cell hc 0
  have d1 := obj_cell hc 1
  have d2 := obj_cell hc 2
  have d3 := obj_cell hc 3
  have d4 := obj_cell hc 4
  have HB := Lib.hid hb
  have HC := Lib.hid hc
  have HZ := Lib.hid hz
  clear hb hc hz
  go_enter Tryd.func18, Tryd.ntmps18
  go_wp2_with fail
  refine (rvalid_any a b c d _).mono ?_
  rintro e w2 ⟨rfl, hk⟩
  have hb := hk.obj HB.out (not_no _)
  have hc := hk.obj HC.out (not_no _)
  have hz := hk.obj HZ.out (not_no _)
  have c0 := obj_cell hb 0
  have c1 := obj_cell hb 1
  have c2 := obj_cell hb 2
  have c3 := obj_cell hb 3
  have d0 := obj_cell hc 0
  have d1 := obj_cell hc 1
  have d2 := obj_cell hc 2
  have d3 := obj_cell hc 3
  have d4 := obj_cell hc 4
  have HB2 := Lib.hid hb
  have HC2 := Lib.hid hc
  have HZ2 := Lib.hid hz
  have HK2 := Lib.hid (HK1.out.and hk)
  clear hb hc hz hk
  rw [h]
  go_wp2_with fail
  refine (rvalidCost_any x y z u g _).mono ?_
  rintro e w3 ⟨rfl, hk⟩
  have hb := hk.obj HB2.out (not_no _)
  have hc := hk.obj HC2.out (not_no _)
  have hz := hk.obj HZ2.out (not_no _)
  have c0 := obj_cell hb 0
  have c1 := obj_cell hb 1
  have c2 := obj_cell hb 2
  have c3 := obj_cell hb 3
  have d0 := obj_cell hc 0
  have d1 := obj_cell hc 1
  have d2 := obj_cell hc 2
  have d3 := obj_cell hc 3
  have d4 := obj_cell hc 4
  have z0 := obj_cell hz 0
  have z1 := obj_cell hz 1
  have z2 := obj_cell hz 2
  have z3 := obj_cell hz 3
  have f0 := obj_free hz 0
  have f1 := obj_free hz 1
  have f2 := obj_free hz 2
  have f3 := obj_free hz 3
  have HB3 := Lib.hid hb
  have HC3 := Lib.hid hc
  have HZ3 := Lib.hid hz
  have HK3 := Lib.hid (HK2.out.and hk)
  clear hb hc hz hk
  rw [h2]
  go_wp2_with fail
  have k1 := obj_store (obj_store (obj_store (obj_store HZ3.out 0 (.int .i64 0)) 1 (.int .i64 0)) 2 (.int .i64 0)) 3 (.int .i64 0)
  refine bodyPost_ret (results18 rfl rfl k1 rfl) rfl ⟨rfl, ?_⟩
  have hn : ∀ (h : w.heap.size + 1 + 1 < w.heap.size), No (w.heap.size + 1 + 1) := fun h => by omega
  exact ((((HK3.out).setCell (p := ⟨w.heap.size + 1 + 1, 0, none⟩) hn _).setCell (p := ⟨w.heap.size + 1 + 1, 1, none⟩) hn _).setCell (p := ⟨w.heap.size + 1 + 1, 2, none⟩) hn _).setCell (p := ⟨w.heap.size + 1 + 1, 3, none⟩) hn _
set_option maxRecDepth 100000 in
theorem rpay_no (a b c d x y z u g : Int) (w : World) (h : in4 99 a b c d = true) (h2 : cost x y z u g = true) (hz0 : zero (misM ⟨x, y, z, u⟩ ⟨a, b, c, d⟩) (lack ⟨x, y, z, u⟩ ⟨a, b, c, d⟩ g) = !true) : Calls Tryd.prog 18 #[.agg #[.int .i64 a, .int .i64 b, .int .i64 c, .int .i64 d], .agg #[.int .i64 x, .int .i64 y, .int .i64 z, .int .i64 u, .int .i64 g]] w fun e w' => e = .returned (.tuple #[.agg #[.int .i64 0, .int .i64 0, .int .i64 0, .int .i64 0], .int .i64 12]) ∧ Kept No w w' := by
  obtain ⟨w1, hw1⟩ : ∃ w1, ((w.alloc (.cells #[.int .i64 a, .int .i64 b, .int .i64 c, .int .i64 d] 23)).alloc (.cells #[.int .i64 x, .int .i64 y, .int .i64 z, .int .i64 u, .int .i64 g] 25)).alloc (.cells #[.int .i64 0, .int .i64 0, .int .i64 0, .int .i64 0] 23) = w1 := ⟨_, rfl⟩
  have hb : w1.heap[w.heap.size]? = some (.cells #[.int .i64 a, .int .i64 b, .int .i64 c, .int .i64 d] 23 (0, 0)) := by rw [← hw1]; exact obj_alloc (obj_alloc (heap_alloc_new w _) _) _
  have hc : w1.heap[w.heap.size + 1]? = some (.cells #[.int .i64 x, .int .i64 y, .int .i64 z, .int .i64 u, .int .i64 g] 25 (0, 0)) := by rw [← hw1]; exact obj_alloc (World.alloc_at (by simp) _) _
  have hz : w1.heap[w.heap.size + 1 + 1]? = some (.cells #[.int .i64 0, .int .i64 0, .int .i64 0, .int .i64 0] 23 (0, 0)) := by rw [← hw1]; exact World.alloc_at (by simp) _
  have HK1 := Lib.hid (show Kept No w w1 by rw [← hw1]; exact (((Kept.refl No w).alloc _).alloc _).alloc _)
  have c0 := obj_cell hb 0
  have c1 := obj_cell hb 1
  have c2 := obj_cell hb 2
  have c3 := obj_cell hb 3
  have d0 := obj_cell hc 0
  have d1 := obj_cell hc 1
  have d2 := obj_cell hc 2
  have d3 := obj_cell hc 3
  have d4 := obj_cell hc 4
  have HB := Lib.hid hb
  have HC := Lib.hid hc
  have HZ := Lib.hid hz
  clear hb hc hz
  go_enter Tryd.func18, Tryd.ntmps18
  go_wp2_with fail
  refine (rvalid_any a b c d _).mono ?_
  rintro e w2 ⟨rfl, hk⟩
  have hb := hk.obj HB.out (not_no _)
  have hc := hk.obj HC.out (not_no _)
  have hz := hk.obj HZ.out (not_no _)
  have c0 := obj_cell hb 0
  have c1 := obj_cell hb 1
  have c2 := obj_cell hb 2
  have c3 := obj_cell hb 3
  have d0 := obj_cell hc 0
  have d1 := obj_cell hc 1
  have d2 := obj_cell hc 2
  have d3 := obj_cell hc 3
  have d4 := obj_cell hc 4
  have HB2 := Lib.hid hb
  have HC2 := Lib.hid hc
  have HZ2 := Lib.hid hz
  have HK2 := Lib.hid (HK1.out.and hk)
  clear hb hc hz hk
  rw [h]
  go_wp2_with fail
  refine (rvalidCost_any x y z u g _).mono ?_
  rintro e w3 ⟨rfl, hk⟩
  have hb := hk.obj HB2.out (not_no _)
  have hc := hk.obj HC2.out (not_no _)
  have hz := hk.obj HZ2.out (not_no _)
  have c0 := obj_cell hb 0
  have c1 := obj_cell hb 1
  have c2 := obj_cell hb 2
  have c3 := obj_cell hb 3
  have d0 := obj_cell hc 0
  have d1 := obj_cell hc 1
  have d2 := obj_cell hc 2
  have d3 := obj_cell hc 3
  have d4 := obj_cell hc 4
  have HB3 := Lib.hid hb
  have HC3 := Lib.hid hc
  have HZ3 := Lib.hid hz
  have HK3 := Lib.hid (HK2.out.and hk)
  clear hb hc hz hk
  rw [h2]
  have HM := Lib.hid (fun W => rmiss_ok a b c d x y z u g W h h2)
  have hnq : ∀ W, Sem.run Tryd.prog (binOp .neq 25 (.agg #[.int .i64 (mis x a), .int .i64 (mis y b), .int .i64 (mis z c), .int .i64 (mis u d), .int .i64 (lack ⟨x, y, z, u⟩ ⟨a, b, c, d⟩ g)]) (.agg #[.int .i64 0, .int .i64 0, .int .i64 0, .int .i64 0, .int .i64 0])) W = .ok (.bool true) W := fun W => by
    rw [neq5]
    have e : q5 (mis x a) (mis y b) (mis z c) (mis u d) (lack ⟨x, y, z, u⟩ ⟨a, b, c, d⟩ g) 0 0 0 0 0 = !true := hz0
    rw [e]
    rfl
  clear h h2 hz0
  obtain ⟨w4, hw4⟩ : ∃ w4, w3.alloc (.cells #[.int .i64 0, .int .i64 0, .int .i64 0, .int .i64 0, .int .i64 0] 25) = w4 := ⟨_, rfl⟩
  have hb := obj_alloc HB3.out (.cells #[.int .i64 0, .int .i64 0, .int .i64 0, .int .i64 0, .int .i64 0] 25)
  have hc := obj_alloc HC3.out (.cells #[.int .i64 0, .int .i64 0, .int .i64 0, .int .i64 0, .int .i64 0] 25)
  have hz := obj_alloc HZ3.out (.cells #[.int .i64 0, .int .i64 0, .int .i64 0, .int .i64 0, .int .i64 0] 25)
  have hn := heap_alloc_new w3 (.cells #[.int .i64 0, .int .i64 0, .int .i64 0, .int .i64 0, .int .i64 0] 25)
  rw [hw4] at hb hc hz hn
  have HK4 := Lib.hid (show Kept No w w4 by rw [← hw4]; exact HK3.out.alloc _)
  have c0 := obj_cell hb 0
  have c1 := obj_cell hb 1
  have c2 := obj_cell hb 2
  have c3 := obj_cell hb 3
  have d0 := obj_cell hc 0
  have d1 := obj_cell hc 1
  have d2 := obj_cell hc 2
  have d3 := obj_cell hc 3
  have d4 := obj_cell hc 4
  have n0 := obj_cell hn 0
  have n1 := obj_cell hn 1
  have n2 := obj_cell hn 2
  have n3 := obj_cell hn 3
  have n4 := obj_cell hn 4
  have HB4 := Lib.hid hb
  have HC4 := Lib.hid hc
  have HZ4 := Lib.hid hz
  clear hb hc hz hn
  go_wp2_with fail
  go_region_held3 (fun w' => w'.cell? ⟨w.heap.size, 0, none⟩ = some (.int .i64 a) ∧ w'.cell? ⟨w.heap.size, 1, none⟩ = some (.int .i64 b) ∧ w'.cell? ⟨w.heap.size, 2, none⟩ = some (.int .i64 c) ∧ w'.cell? ⟨w.heap.size, 3, none⟩ = some (.int .i64 d) ∧ w'.cell? ⟨w.heap.size + 1, 0, none⟩ = some (.int .i64 x) ∧ w'.cell? ⟨w.heap.size + 1, 1, none⟩ = some (.int .i64 y) ∧ w'.cell? ⟨w.heap.size + 1, 2, none⟩ = some (.int .i64 z) ∧ w'.cell? ⟨w.heap.size + 1, 3, none⟩ = some (.int .i64 u) ∧ w'.cell? ⟨w.heap.size + 1, 4, none⟩ = some (.int .i64 g) ∧ w'.cell? ⟨w3.heap.size, 0, none⟩ = some (.int .i64 0) ∧ w'.cell? ⟨w3.heap.size, 1, none⟩ = some (.int .i64 0) ∧ w'.cell? ⟨w3.heap.size, 2, none⟩ = some (.int .i64 0) ∧ w'.cell? ⟨w3.heap.size, 3, none⟩ = some (.int .i64 0) ∧ w'.cell? ⟨w3.heap.size, 4, none⟩ = some (.int .i64 0)) (go_keep)
    ((go_at_call 19; refine (HM.out _).mono ?_; rintro e w5 ⟨rfl, hk⟩; have m0 := hk.cell c0 (not_no _); have m1 := hk.cell c1 (not_no _); have m2 := hk.cell c2 (not_no _); have m3 := hk.cell c3 (not_no _); have m4 := hk.cell d0 (not_no _); have m5 := hk.cell d1 (not_no _); have m6 := hk.cell d2 (not_no _); have m7 := hk.cell d3 (not_no _); have m8 := hk.cell d4 (not_no _); have m9 := hk.cell n0 (not_no _); have m10 := hk.cell n1 (not_no _); have m11 := hk.cell n2 (not_no _); have m12 := hk.cell n3 (not_no _); have m13 := hk.cell n4 (not_no _); have HB5 := Lib.hid (hk.obj HB4.out (not_no _)); have HC5 := Lib.hid (hk.obj HC4.out (not_no _)); have HZ5 := Lib.hid (hk.obj HZ4.out (not_no _)); have HK5 := Lib.hid (HK4.out.and hk.of_drew); clear hk))
  have hz := HZ5.out
  have z0 := obj_cell hz 0
  have z1 := obj_cell hz 1
  have z2 := obj_cell hz 2
  have z3 := obj_cell hz 3
  have f0 := obj_free hz 0
  have f1 := obj_free hz 1
  have f2 := obj_free hz 2
  have f3 := obj_free hz 3
  clear hz
  go_wp2_with fail
  have k1 := obj_store (obj_store (obj_store (obj_store HZ5.out 0 (.int .i64 0)) 1 (.int .i64 0)) 2 (.int .i64 0)) 3 (.int .i64 0)
  refine bodyPost_ret (results18 rfl rfl k1 rfl) rfl ⟨rfl, ?_⟩
  have hn : ∀ (h : w.heap.size + 1 + 1 < w.heap.size), No (w.heap.size + 1 + 1) := fun h => by omega
  exact ((((HK5.out).setCell (p := ⟨w.heap.size + 1 + 1, 0, none⟩) hn _).setCell (p := ⟨w.heap.size + 1 + 1, 1, none⟩) hn _).setCell (p := ⟨w.heap.size + 1 + 1, 2, none⟩) hn _).setCell (p := ⟨w.heap.size + 1 + 1, 3, none⟩) hn _
end Go.Proofs.YtogfjegedfaekaaDoor
