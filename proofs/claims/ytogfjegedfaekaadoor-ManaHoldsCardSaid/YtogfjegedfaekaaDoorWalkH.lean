/-
  Mana: Missing.
-/
import Derived.Test.YtogfjegedfaekaaDoorWalkG
import Derived.Test.YtogfjegedfaekaaDoorL
import Derived.Deep.RegionHeld3
set_option linter.unusedVariables false
set_option linter.unusedSimpArgs false
namespace Go.Proofs.YtogfjegedfaekaaDoor
open Go.RowKit Go.Zn Go.Zm
attribute [local go_sem] Oper.semAt_some

/-- the pool, and what is missing, behind k colours -/
def mAr (a b c d x y z u : Int) : Nat → Array Value
  | 0 => #[.int .i64 a, .int .i64 b, .int .i64 c, .int .i64 d]
  | 1 => #[.int .i64 (rem x a), .int .i64 b, .int .i64 c, .int .i64 d]
  | 2 => #[.int .i64 (rem x a), .int .i64 (rem y b), .int .i64 c, .int .i64 d]
  | 3 => #[.int .i64 (rem x a), .int .i64 (rem y b), .int .i64 (rem z c), .int .i64 d]
  | _ => #[.int .i64 (rem x a), .int .i64 (rem y b), .int .i64 (rem z c), .int .i64 (rem u d)]
def oAr (a b c d x y z u : Int) : Nat → Array Value
  | 0 => #[.int .i64 0, .int .i64 0, .int .i64 0, .int .i64 0, .int .i64 0]
  | 1 => #[.int .i64 (mis x a), .int .i64 0, .int .i64 0, .int .i64 0, .int .i64 0]
  | 2 => #[.int .i64 (mis x a), .int .i64 (mis y b), .int .i64 0, .int .i64 0, .int .i64 0]
  | 3 => #[.int .i64 (mis x a), .int .i64 (mis y b), .int .i64 (mis z c), .int .i64 0, .int .i64 0]
  | _ => #[.int .i64 (mis x a), .int .i64 (mis y b), .int .i64 (mis z c), .int .i64 (mis u d), .int .i64 0]
structure MRel (a b c d x y z u g : Int) (w0 : World) (k : Nat) (i : Value) (wr : World) : Prop where
  hi : i = .int .i64 (k : Nat)
  k4 : k ≤ 4
  hm : wr.heap[w0.heap.size]? = some (.cells (mAr a b c d x y z u k) 23 (0, 0))
  hc : wr.heap[w0.heap.size + 1]? = some (.cells #[.int .i64 x, .int .i64 y, .int .i64 z, .int .i64 u, .int .i64 g] 25 (0, 0))
  hr : wr.heap[w0.heap.size + 1 + 1]? = some (.cells #[.int .i64 0, .int .i64 0, .int .i64 0, .int .i64 0, .int .i64 0] 25 (0, 0))
  ho : wr.heap[w0.heap.size + 1 + 1 + 1]? = some (.cells (oAr a b c d x y z u k) 25 (0, 0))
  kept : Kept No w0 wr
theorem cell_far {w : World} {p : Addr} {b o : Nat} {u v : Value} (hc : w.cell? ⟨b, o, none⟩ = some v) (h : p.block ≠ b) : (w.setCell p u).cell? ⟨b, o, none⟩ = some v := by
  exact (World.cell?_setCell_other _ _ _ _ (by intro e; subst e; exact h rfl)).trans hc
theorem results22 {W : World} {tmps : Array Value} {g : Nat} {cs : Array Value} (ht : tmps.getD 4 undef = .pointer (some ⟨g, 0, none⟩)) (hh : W.heap[g]? = some (.cells cs 25 (0, 0))) (hs : cs.size = 5) :
    (results Tryd.f22 tmps).run Tryd.prog W = .ok (.agg cs) W :=
  results_cell_row (p := 4) (ty := 25) rfl tmps W g 25 cs (0, 0) _ ht hh Tryd.underlying25 rfl (by rw [hs]; kernel_rfl)
set_option maxRecDepth 100000 in
theorem miss_bad1 (a b c d x y z u g : Int) (w : World) (h : in4 99 a b c d = false) : Calls Tryd.prog 22 #[.agg #[.int .i64 a, .int .i64 b, .int .i64 c, .int .i64 d], .agg #[.int .i64 x, .int .i64 y, .int .i64 z, .int .i64 u, .int .i64 g]] w fun e w' => e = .returned (.agg #[.int .i64 0, .int .i64 0, .int .i64 0, .int .i64 0, .int .i64 0]) ∧ Kept No w w' := by
  obtain ⟨w1, hw1⟩ : ∃ w1, (((w.alloc (.cells #[.int .i64 a, .int .i64 b, .int .i64 c, .int .i64 d] 23)).alloc (.cells #[.int .i64 x, .int .i64 y, .int .i64 z, .int .i64 u, .int .i64 g] 25)).alloc (.cells #[.int .i64 0, .int .i64 0, .int .i64 0, .int .i64 0, .int .i64 0] 25)).alloc (.cells #[.int .i64 0, .int .i64 0, .int .i64 0, .int .i64 0, .int .i64 0] 25) = w1 := ⟨_, rfl⟩
  have hb : w1.heap[w.heap.size]? = some (.cells #[.int .i64 a, .int .i64 b, .int .i64 c, .int .i64 d] 23 (0, 0)) := by rw [← hw1]; exact obj_alloc (obj_alloc (obj_alloc (heap_alloc_new w _) _) _) _
  have hc : w1.heap[w.heap.size + 1]? = some (.cells #[.int .i64 x, .int .i64 y, .int .i64 z, .int .i64 u, .int .i64 g] 25 (0, 0)) := by rw [← hw1]; exact obj_alloc (obj_alloc (World.alloc_at (by simp) _) _) _
  have hz : w1.heap[w.heap.size + 1 + 1]? = some (.cells #[.int .i64 0, .int .i64 0, .int .i64 0, .int .i64 0, .int .i64 0] 25 (0, 0)) := by rw [← hw1]; exact obj_alloc (World.alloc_at (by simp) _) _
  have ho : w1.heap[w.heap.size + 1 + 1 + 1]? = some (.cells #[.int .i64 0, .int .i64 0, .int .i64 0, .int .i64 0, .int .i64 0] 25 (0, 0)) := by rw [← hw1]; exact World.alloc_at (by simp) _
  have HK1 := Lib.hid (show Kept No w w1 by rw [← hw1]; exact ((((Kept.refl No w).alloc _).alloc _).alloc _).alloc _)
  have c0 := obj_cell hb 0
  have c1 := obj_cell hb 1
  have c2 := obj_cell hb 2
  have c3 := obj_cell hb 3
  have d0 := obj_cell hc 0
  have d1 := obj_cell hc 1
  have d2 := obj_cell hc 2
  have d3 := obj_cell hc 3
  have d4 := obj_cell hc 4
  have HB := Lib.hid hb
  have HC := Lib.hid hc
  have HZ := Lib.hid hz
  have HO := Lib.hid ho
  clear hb hc hz ho
  go_enter Tryd.func22, Tryd.ntmps22
  go_wp2_with fail
  refine (valid_any a b c d _).mono ?_
  rintro e w' ⟨rfl, hk⟩
  rw [h]
  have hz2 := hk.obj HZ.out (not_no _)
  have z0 := obj_cell hz2 0
  have z1 := obj_cell hz2 1
  have z2 := obj_cell hz2 2
  have z3 := obj_cell hz2 3
  have z4 := obj_cell hz2 4
  have ho2 := hk.obj HO.out (not_no _)
  have o0 := obj_cell ho2 0
  have o1 := obj_cell ho2 1
  have o2 := obj_cell ho2 2
  have o3 := obj_cell ho2 3
  have o4 := obj_cell ho2 4
  have f0 := obj_free hz2 0
  have f1 := obj_free hz2 1
  have f2 := obj_free hz2 2
  have f3 := obj_free hz2 3
  have f4 := obj_free hz2 4
  have HZ2 := Lib.hid hz2
  have HK := Lib.hid (HK1.out.and hk)
  clear hk hz2 ho2
  go_wp2_with fail
  have k1 := obj_store (obj_store (obj_store (obj_store (obj_store HZ2.out 0 (.int .i64 0)) 1 (.int .i64 0)) 2 (.int .i64 0)) 3 (.int .i64 0)) 4 (.int .i64 0)

  refine bodyPost_ret (results22 rfl k1 rfl) rfl ⟨rfl, ?_⟩
  have hn : ∀ (h : w.heap.size + 1 + 1 < w.heap.size), No (w.heap.size + 1 + 1) := fun h => by omega
  exact (((((HK.out).setCell (p := ⟨w.heap.size + 1 + 1, 0, none⟩) hn _).setCell (p := ⟨w.heap.size + 1 + 1, 1, none⟩) hn _).setCell (p := ⟨w.heap.size + 1 + 1, 2, none⟩) hn _).setCell (p := ⟨w.heap.size + 1 + 1, 3, none⟩) hn _).setCell (p := ⟨w.heap.size + 1 + 1, 4, none⟩) hn _
set_option maxRecDepth 100000 in
theorem miss_bad2 (a b c d x y z u g : Int) (w : World) (h : in4 99 a b c d = true) (h2 : cost x y z u g = false) : Calls Tryd.prog 22 #[.agg #[.int .i64 a, .int .i64 b, .int .i64 c, .int .i64 d], .agg #[.int .i64 x, .int .i64 y, .int .i64 z, .int .i64 u, .int .i64 g]] w fun e w' => e = .returned (.agg #[.int .i64 0, .int .i64 0, .int .i64 0, .int .i64 0, .int .i64 0]) ∧ Kept No w w' := by
  obtain ⟨w1, hw1⟩ : ∃ w1, (((w.alloc (.cells #[.int .i64 a, .int .i64 b, .int .i64 c, .int .i64 d] 23)).alloc (.cells #[.int .i64 x, .int .i64 y, .int .i64 z, .int .i64 u, .int .i64 g] 25)).alloc (.cells #[.int .i64 0, .int .i64 0, .int .i64 0, .int .i64 0, .int .i64 0] 25)).alloc (.cells #[.int .i64 0, .int .i64 0, .int .i64 0, .int .i64 0, .int .i64 0] 25) = w1 := ⟨_, rfl⟩
  have hb : w1.heap[w.heap.size]? = some (.cells #[.int .i64 a, .int .i64 b, .int .i64 c, .int .i64 d] 23 (0, 0)) := by rw [← hw1]; exact obj_alloc (obj_alloc (obj_alloc (heap_alloc_new w _) _) _) _
  have hc : w1.heap[w.heap.size + 1]? = some (.cells #[.int .i64 x, .int .i64 y, .int .i64 z, .int .i64 u, .int .i64 g] 25 (0, 0)) := by rw [← hw1]; exact obj_alloc (obj_alloc (World.alloc_at (by simp) _) _) _
  have hz : w1.heap[w.heap.size + 1 + 1]? = some (.cells #[.int .i64 0, .int .i64 0, .int .i64 0, .int .i64 0, .int .i64 0] 25 (0, 0)) := by rw [← hw1]; exact obj_alloc (World.alloc_at (by simp) _) _
  have ho : w1.heap[w.heap.size + 1 + 1 + 1]? = some (.cells #[.int .i64 0, .int .i64 0, .int .i64 0, .int .i64 0, .int .i64 0] 25 (0, 0)) := by rw [← hw1]; exact World.alloc_at (by simp) _
  have HK1 := Lib.hid (show Kept No w w1 by rw [← hw1]; exact ((((Kept.refl No w).alloc _).alloc _).alloc _).alloc _)
  have c0 := obj_cell hb 0
  have c1 := obj_cell hb 1
  have c2 := obj_cell hb 2
  have c3 := obj_cell hb 3
  have d0 := obj_cell hc 0
  have d1 := obj_cell hc 1
  have d2 := obj_cell hc 2
  have d3 := obj_cell hc 3
  have d4 := obj_cell hc 4
  have HB := Lib.hid hb
  have HC := Lib.hid hc
  have HZ := Lib.hid hz
  have HO := Lib.hid ho
  clear hb hc hz ho
  go_enter Tryd.func22, Tryd.ntmps22
  go_wp2_with fail
  refine (valid_any a b c d _).mono ?_
  rintro e w' ⟨rfl, hk⟩
  rw [h]
  have hz2 := hk.obj HZ.out (not_no _)
  have ho2 := hk.obj HO.out (not_no _)
  have hc2 := hk.obj HC.out (not_no _)
  have d0 := obj_cell hc2 0
  have d1 := obj_cell hc2 1
  have d2 := obj_cell hc2 2
  have d3 := obj_cell hc2 3
  have d4 := obj_cell hc2 4
  have HZ2 := Lib.hid hz2
  have HO2 := Lib.hid ho2
  have HK := Lib.hid (HK1.out.and hk)
  clear hk hz2 ho2 hc2
  go_wp2_with fail
  refine (validCost_any x y z u g _).mono ?_
  rintro e w2 ⟨rfl, hk⟩
  rw [h2]
  have hz3 := hk.obj HZ2.out (not_no _)
  have ho3 := hk.obj HO2.out (not_no _)
  have o0 := obj_cell ho3 0
  have o1 := obj_cell ho3 1
  have o2 := obj_cell ho3 2
  have o3 := obj_cell ho3 3
  have o4 := obj_cell ho3 4
  have z0 := obj_cell hz3 0
  have z1 := obj_cell hz3 1
  have z2 := obj_cell hz3 2
  have z3 := obj_cell hz3 3
  have z4 := obj_cell hz3 4
  have f0 := obj_free hz3 0
  have f1 := obj_free hz3 1
  have f2 := obj_free hz3 2
  have f3 := obj_free hz3 3
  have f4 := obj_free hz3 4
  have HZ3 := Lib.hid hz3
  have HK3 := Lib.hid (HK.out.and hk)
  clear hk hz3 ho3
  go_wp2_with fail
  have k1 := obj_store (obj_store (obj_store (obj_store (obj_store HZ3.out 0 (.int .i64 0)) 1 (.int .i64 0)) 2 (.int .i64 0)) 3 (.int .i64 0)) 4 (.int .i64 0)

  refine bodyPost_ret (results22 rfl k1 rfl) rfl ⟨rfl, ?_⟩
  have hn : ∀ (h : w.heap.size + 1 + 1 < w.heap.size), No (w.heap.size + 1 + 1) := fun h => by omega
  exact (((((HK3.out).setCell (p := ⟨w.heap.size + 1 + 1, 0, none⟩) hn _).setCell (p := ⟨w.heap.size + 1 + 1, 1, none⟩) hn _).setCell (p := ⟨w.heap.size + 1 + 1, 2, none⟩) hn _).setCell (p := ⟨w.heap.size + 1 + 1, 3, none⟩) hn _).setCell (p := ⟨w.heap.size + 1 + 1, 4, none⟩) hn _
set_option maxRecDepth 100000 in
set_option maxHeartbeats 2000000 in
theorem miss_ok (a b c d x y z u g : Int) (w : World) (h : in4 99 a b c d = true) (h2 : cost x y z u g = true) : Calls Tryd.prog 22 #[.agg #[.int .i64 a, .int .i64 b, .int .i64 c, .int .i64 d], .agg #[.int .i64 x, .int .i64 y, .int .i64 z, .int .i64 u, .int .i64 g]] w fun e w' => e = .returned (.agg #[.int .i64 (mis x a), .int .i64 (mis y b), .int .i64 (mis z c), .int .i64 (mis u d), .int .i64 (lack ⟨x, y, z, u⟩ ⟨a, b, c, d⟩ g)]) ∧ Kept No w w' := by
  obtain ⟨⟨a1, a2⟩, ⟨b1, b2⟩, ⟨e1, e2⟩, ⟨d1, d2⟩⟩ := in4_out h
  obtain ⟨hX, g1, g2⟩ := cost_out h2
  obtain ⟨⟨x1, x2⟩, ⟨y1, y2⟩, ⟨z1, z2⟩, ⟨u1, u2⟩⟩ := in4_out hX
  obtain ⟨w1, hw1⟩ : ∃ w1, (((w.alloc (.cells #[.int .i64 a, .int .i64 b, .int .i64 c, .int .i64 d] 23)).alloc (.cells #[.int .i64 x, .int .i64 y, .int .i64 z, .int .i64 u, .int .i64 g] 25)).alloc (.cells #[.int .i64 0, .int .i64 0, .int .i64 0, .int .i64 0, .int .i64 0] 25)).alloc (.cells #[.int .i64 0, .int .i64 0, .int .i64 0, .int .i64 0, .int .i64 0] 25) = w1 := ⟨_, rfl⟩
  have hb : w1.heap[w.heap.size]? = some (.cells #[.int .i64 a, .int .i64 b, .int .i64 c, .int .i64 d] 23 (0, 0)) := by rw [← hw1]; exact obj_alloc (obj_alloc (obj_alloc (heap_alloc_new w _) _) _) _
  have hc : w1.heap[w.heap.size + 1]? = some (.cells #[.int .i64 x, .int .i64 y, .int .i64 z, .int .i64 u, .int .i64 g] 25 (0, 0)) := by rw [← hw1]; exact obj_alloc (obj_alloc (World.alloc_at (by simp) _) _) _
  have hz : w1.heap[w.heap.size + 1 + 1]? = some (.cells #[.int .i64 0, .int .i64 0, .int .i64 0, .int .i64 0, .int .i64 0] 25 (0, 0)) := by rw [← hw1]; exact obj_alloc (World.alloc_at (by simp) _) _
  have ho : w1.heap[w.heap.size + 1 + 1 + 1]? = some (.cells #[.int .i64 0, .int .i64 0, .int .i64 0, .int .i64 0, .int .i64 0] 25 (0, 0)) := by rw [← hw1]; exact World.alloc_at (by simp) _
  have HK1 := Lib.hid (show Kept No w w1 by rw [← hw1]; exact ((((Kept.refl No w).alloc _).alloc _).alloc _).alloc _)
  have c0 := obj_cell hb 0
  have c1 := obj_cell hb 1
  have c2 := obj_cell hb 2
  have c3 := obj_cell hb 3
  have d0 := obj_cell hc 0
  have d1 := obj_cell hc 1
  have d2 := obj_cell hc 2
  have d3 := obj_cell hc 3
  have d4 := obj_cell hc 4
  have HB := Lib.hid hb
  have HC := Lib.hid hc
  have HZ := Lib.hid hz
  have HO := Lib.hid ho
  clear hb hc hz ho
  go_enter Tryd.func22, Tryd.ntmps22
  go_wp2_with fail
  refine (valid_any a b c d _).mono ?_
  rintro e w' ⟨rfl, hk⟩
  rw [h]
  have hb2 := hk.obj HB.out (not_no _)
  have c0 := obj_cell hb2 0
  have c1 := obj_cell hb2 1
  have c2 := obj_cell hb2 2
  have c3 := obj_cell hb2 3
  have hz2 := hk.obj HZ.out (not_no _)
  have ho2 := hk.obj HO.out (not_no _)
  have hc2 := hk.obj HC.out (not_no _)
  have d0 := obj_cell hc2 0
  have d1 := obj_cell hc2 1
  have d2 := obj_cell hc2 2
  have d3 := obj_cell hc2 3
  have d4 := obj_cell hc2 4
  have HB2 := Lib.hid hb2
  have HC2 := Lib.hid hc2
  have HZ2 := Lib.hid hz2
  have HO2 := Lib.hid ho2
  have HK := Lib.hid (HK1.out.and hk)
  clear hk hz2 ho2 hc2 hb2
  go_wp2_with fail
  refine (validCost_any x y z u g _).mono ?_
  rintro e w2 ⟨rfl, hk⟩
  rw [h2]
  have hb3 := hk.obj HB2.out (not_no _)
  have c0 := obj_cell hb3 0
  have c1 := obj_cell hb3 1
  have c2 := obj_cell hb3 2
  have c3 := obj_cell hb3 3
  have hc3 := hk.obj HC2.out (not_no _)
  have d0 := obj_cell hc3 0
  have d1 := obj_cell hc3 1
  have d2 := obj_cell hc3 2
  have d3 := obj_cell hc3 3
  have d4 := obj_cell hc3 4
  have hz3 := hk.obj HZ2.out (not_no _)
  have ho3 := hk.obj HO2.out (not_no _)
  have HB3 := Lib.hid hb3
  have HC3 := Lib.hid hc3
  have HZ3 := Lib.hid hz3
  have HO3 := Lib.hid ho3
  have HK3 := Lib.hid (HK.out.and hk)
  clear hk hz3 ho3 hc3 hb3 hX
  have H2 := Lib.hid h2
  have H1 := Lib.hid h
  clear h2 h
  have i0 := idx0 x y z u
  have i1 := idx1 x y z u
  have i2 := idx2 x y z u
  have i3 := idx3 x y z u
  go_wp2_with fail
  go_loopw [19] (fun i wr => ∃ k, MRel a b c d x y z u g w k i wr) (fun i _ => 4 - (intOf i).toNat)
  case atStart => exact ⟨0, ⟨rfl, by decide, HB3.out, HC3.out, HZ3.out, HO3.out, HK3.out⟩⟩
  case round =>
    obtain ⟨k, hr⟩ := hrel
    have hi := hr.hi
    have hk4 := hr.k4
    subst hi
    obtain rfl | rfl | rfl | rfl | rfl : k = 0 ∨ k = 1 ∨ k = 2 ∨ k = 3 ∨ k = 4 := by omega
    · have c0 : wr.cell? ⟨w.heap.size, 0, none⟩ = some (.int .i64 a) := obj_cell hr.hm 0
      have fm : wr.frozen? ⟨w.heap.size, 0, none⟩ = false := obj_free hr.hm 0
      have fo : wr.frozen? ⟨w.heap.size + 1 + 1 + 1, 0, none⟩ = false := obj_free hr.ho 0
      have co : wr.cell? ⟨w.heap.size + 1 + 1 + 1, 0, none⟩ = some (.int .i64 0) := obj_cell hr.ho 0
      have HR := Lib.hid hr
      clear hr
      go_wp2_with fail
      have hn2 : ∀ (h : w.heap.size < w.heap.size), No w.heap.size := fun h => by omega
      have hn3 : ∀ (h : w.heap.size + 1 + 1 + 1 < w.heap.size), No (w.heap.size + 1 + 1 + 1) := fun h => by omega
      have hR := HR.out
      refine ⟨⟨1, ⟨by go_num, by decide, ?_, ?_, ?_, ?_, ?_⟩⟩, by simp [intOf]⟩
      · exact obj_store (obj_setCell hR.hm (p := ⟨w.heap.size + 1 + 1 + 1, 0, none⟩) _ (by simp <;> omega)) 0 _
      · exact obj_setCell (obj_setCell hR.hc (p := ⟨w.heap.size + 1 + 1 + 1, 0, none⟩) _ (by simp <;> omega)) (p := ⟨w.heap.size, 0, none⟩) _ (by simp <;> omega)
      · exact obj_setCell (obj_setCell hR.hr (p := ⟨w.heap.size + 1 + 1 + 1, 0, none⟩) _ (by simp <;> omega)) (p := ⟨w.heap.size, 0, none⟩) _ (by simp <;> omega)
      · exact obj_setCell (obj_store hR.ho 0 _) (p := ⟨w.heap.size, 0, none⟩) _ (by simp <;> omega)
      · exact (hR.kept.setCell (p := ⟨w.heap.size + 1 + 1 + 1, 0, none⟩) hn3 _).setCell (p := ⟨w.heap.size, 0, none⟩) hn2 _
    · have c1 : wr.cell? ⟨w.heap.size, 1, none⟩ = some (.int .i64 b) := obj_cell hr.hm 1
      have fm : wr.frozen? ⟨w.heap.size, 1, none⟩ = false := obj_free hr.hm 1
      have fo : wr.frozen? ⟨w.heap.size + 1 + 1 + 1, 1, none⟩ = false := obj_free hr.ho 1
      have co : wr.cell? ⟨w.heap.size + 1 + 1 + 1, 1, none⟩ = some (.int .i64 0) := obj_cell hr.ho 1
      have HR := Lib.hid hr
      clear hr
      go_wp2_with fail
      have hn2 : ∀ (h : w.heap.size < w.heap.size), No w.heap.size := fun h => by omega
      have hn3 : ∀ (h : w.heap.size + 1 + 1 + 1 < w.heap.size), No (w.heap.size + 1 + 1 + 1) := fun h => by omega
      have hR := HR.out
      refine ⟨⟨2, ⟨by go_num, by decide, ?_, ?_, ?_, ?_, ?_⟩⟩, by simp [intOf]⟩
      · exact obj_store (obj_setCell hR.hm (p := ⟨w.heap.size + 1 + 1 + 1, 1, none⟩) _ (by simp <;> omega)) 1 _
      · exact obj_setCell (obj_setCell hR.hc (p := ⟨w.heap.size + 1 + 1 + 1, 1, none⟩) _ (by simp <;> omega)) (p := ⟨w.heap.size, 1, none⟩) _ (by simp <;> omega)
      · exact obj_setCell (obj_setCell hR.hr (p := ⟨w.heap.size + 1 + 1 + 1, 1, none⟩) _ (by simp <;> omega)) (p := ⟨w.heap.size, 1, none⟩) _ (by simp <;> omega)
      · exact obj_setCell (obj_store hR.ho 1 _) (p := ⟨w.heap.size, 1, none⟩) _ (by simp <;> omega)
      · exact (hR.kept.setCell (p := ⟨w.heap.size + 1 + 1 + 1, 1, none⟩) hn3 _).setCell (p := ⟨w.heap.size, 1, none⟩) hn2 _
    · have c2 : wr.cell? ⟨w.heap.size, 2, none⟩ = some (.int .i64 c) := obj_cell hr.hm 2
      have fm : wr.frozen? ⟨w.heap.size, 2, none⟩ = false := obj_free hr.hm 2
      have fo : wr.frozen? ⟨w.heap.size + 1 + 1 + 1, 2, none⟩ = false := obj_free hr.ho 2
      have co : wr.cell? ⟨w.heap.size + 1 + 1 + 1, 2, none⟩ = some (.int .i64 0) := obj_cell hr.ho 2
      have HR := Lib.hid hr
      clear hr
      go_wp2_with fail
      have hn2 : ∀ (h : w.heap.size < w.heap.size), No w.heap.size := fun h => by omega
      have hn3 : ∀ (h : w.heap.size + 1 + 1 + 1 < w.heap.size), No (w.heap.size + 1 + 1 + 1) := fun h => by omega
      have hR := HR.out
      refine ⟨⟨3, ⟨by go_num, by decide, ?_, ?_, ?_, ?_, ?_⟩⟩, by simp [intOf]⟩
      · exact obj_store (obj_setCell hR.hm (p := ⟨w.heap.size + 1 + 1 + 1, 2, none⟩) _ (by simp <;> omega)) 2 _
      · exact obj_setCell (obj_setCell hR.hc (p := ⟨w.heap.size + 1 + 1 + 1, 2, none⟩) _ (by simp <;> omega)) (p := ⟨w.heap.size, 2, none⟩) _ (by simp <;> omega)
      · exact obj_setCell (obj_setCell hR.hr (p := ⟨w.heap.size + 1 + 1 + 1, 2, none⟩) _ (by simp <;> omega)) (p := ⟨w.heap.size, 2, none⟩) _ (by simp <;> omega)
      · exact obj_setCell (obj_store hR.ho 2 _) (p := ⟨w.heap.size, 2, none⟩) _ (by simp <;> omega)
      · exact (hR.kept.setCell (p := ⟨w.heap.size + 1 + 1 + 1, 2, none⟩) hn3 _).setCell (p := ⟨w.heap.size, 2, none⟩) hn2 _
    · have c3 : wr.cell? ⟨w.heap.size, 3, none⟩ = some (.int .i64 d) := obj_cell hr.hm 3
      have fm : wr.frozen? ⟨w.heap.size, 3, none⟩ = false := obj_free hr.hm 3
      have fo : wr.frozen? ⟨w.heap.size + 1 + 1 + 1, 3, none⟩ = false := obj_free hr.ho 3
      have co : wr.cell? ⟨w.heap.size + 1 + 1 + 1, 3, none⟩ = some (.int .i64 0) := obj_cell hr.ho 3
      have HR := Lib.hid hr
      clear hr
      go_wp2_with fail
      have hn2 : ∀ (h : w.heap.size < w.heap.size), No w.heap.size := fun h => by omega
      have hn3 : ∀ (h : w.heap.size + 1 + 1 + 1 < w.heap.size), No (w.heap.size + 1 + 1 + 1) := fun h => by omega
      have hR := HR.out
      refine ⟨⟨4, ⟨by go_num, by decide, ?_, ?_, ?_, ?_, ?_⟩⟩, by simp [intOf]⟩
      · exact obj_store (obj_setCell hR.hm (p := ⟨w.heap.size + 1 + 1 + 1, 3, none⟩) _ (by simp <;> omega)) 3 _
      · exact obj_setCell (obj_setCell hR.hc (p := ⟨w.heap.size + 1 + 1 + 1, 3, none⟩) _ (by simp <;> omega)) (p := ⟨w.heap.size, 3, none⟩) _ (by simp <;> omega)
      · exact obj_setCell (obj_setCell hR.hr (p := ⟨w.heap.size + 1 + 1 + 1, 3, none⟩) _ (by simp <;> omega)) (p := ⟨w.heap.size, 3, none⟩) _ (by simp <;> omega)
      · exact obj_setCell (obj_store hR.ho 3 _) (p := ⟨w.heap.size, 3, none⟩) _ (by simp <;> omega)
      · exact (hR.kept.setCell (p := ⟨w.heap.size + 1 + 1 + 1, 3, none⟩) hn3 _).setCell (p := ⟨w.heap.size, 3, none⟩) hn2 _
    · have hm4 : in4 99 (rem x a) (rem y b) (rem z c) (rem u d) = true := in4_yes fun j hj => by
        unfold rem
        obtain rfl | rfl | rfl | rfl : j = 0 ∨ j = 1 ∨ j = 2 ∨ j = 3 := by omega
        all_goals (simp only [at4]; omega)
      have hsum : 0 ≤ rem x a + rem y b + rem z c + rem u d ∧ rem x a + rem y b + rem z c + rem u d ≤ 396 := by unfold rem; omega
      have c0 : wr.cell? ⟨w.heap.size, 0, none⟩ = some (.int .i64 (rem x a)) := obj_cell hr.hm 0
      have c1 : wr.cell? ⟨w.heap.size, 1, none⟩ = some (.int .i64 (rem y b)) := obj_cell hr.hm 1
      have c2 : wr.cell? ⟨w.heap.size, 2, none⟩ = some (.int .i64 (rem z c)) := obj_cell hr.hm 2
      have c3 : wr.cell? ⟨w.heap.size, 3, none⟩ = some (.int .i64 (rem u d)) := obj_cell hr.hm 3
      have d4 : wr.cell? ⟨w.heap.size + 1, 4, none⟩ = some (.int .i64 g) := obj_cell hr.hc 4
      have o4 : wr.cell? ⟨w.heap.size + 1 + 1 + 1, 4, none⟩ = some (.int .i64 0) := obj_cell hr.ho 4
      have fo : wr.frozen? ⟨w.heap.size + 1 + 1 + 1, 4, none⟩ = false := obj_free hr.ho 4
      have hwr : IntKind.i64.wrap (g - (rem x a + rem y b + rem z c + rem u d)) = g - (rem x a + rem y b + rem z c + rem u d) := IntWalk.i64_in _ (by omega)
      have HR := Lib.hid hr
      have HM := Lib.hid hm4
      clear hr hm4
      go_wp2_with fail
      go_region_held3 (fun w' => w'.cell? ⟨w.heap.size, 0, none⟩ = some (.int .i64 (rem x a)) ∧ w'.cell? ⟨w.heap.size, 1, none⟩ = some (.int .i64 (rem y b)) ∧ w'.cell? ⟨w.heap.size, 2, none⟩ = some (.int .i64 (rem z c)) ∧ w'.cell? ⟨w.heap.size, 3, none⟩ = some (.int .i64 (rem u d)) ∧ w'.cell? ⟨w.heap.size + 1, 4, none⟩ = some (.int .i64 g)) (first | go_keep | exact ⟨cell_far q0 (by simp <;> omega), cell_far q1 (by simp <;> omega), cell_far q2 (by simp <;> omega), cell_far q3 (by simp <;> omega), cell_far q4 (by simp <;> omega)⟩)
        ((go_at_call 31; refine (sum_any _ _ _ _ _ HM.out).mono ?_; rintro e w' ⟨rfl, hk⟩; have q0 := hk.cell c0 (not_no _); have q1 := hk.cell c1 (not_no _); have q2 := hk.cell c2 (not_no _); have q3 := hk.cell c3 (not_no _); have q4 := hk.cell d4 (not_no _); have q5 := hk.cell o4 (not_no _); have q6 := (hk.frozen (block_lt_of_cell o4) (not_no _)).trans fo; have HK5 := Lib.hid hk; clear hk))
      have hR := HR.out
      have hk := HK5.out
      have hO := obj_store (hk.obj hR.ho (not_no _)) 4 (.int .i64 (max 0 (g - (rem x a + rem y b + rem z c + rem u d))))
      have hZ := obj_setCell (hk.obj hR.hr (not_no _)) (p := ⟨w.heap.size + 1 + 1 + 1, 4, none⟩) (.int .i64 (max 0 (g - (rem x a + rem y b + rem z c + rem u d)))) (by simp)
      have o0 := obj_cell hO 0
      have o1 := obj_cell hO 1
      have o2 := obj_cell hO 2
      have o3 := obj_cell hO 3
      have o4 := obj_cell hO 4
      have z0 := obj_cell hZ 0
      have z1 := obj_cell hZ 1
      have z2 := obj_cell hZ 2
      have z3 := obj_cell hZ 3
      have z4 := obj_cell hZ 4
      have f0 := obj_free hZ 0
      have f1 := obj_free hZ 1
      have f2 := obj_free hZ 2
      have f3 := obj_free hZ 3
      have f4 := obj_free hZ 4
      have HZ9 := Lib.hid hZ
      clear hR hk hO hZ q0 q1 q2 q3 q4 q5 q6 hwr
      simp only [oAr] at o0 o1 o2 o3 o4
      go_wp2_with fail
      have k1 := obj_store (obj_store (obj_store (obj_store (obj_store HZ9.out 0 (.int .i64 (mis x a))) 1 (.int .i64 (mis y b))) 2 (.int .i64 (mis z c))) 3 (.int .i64 (mis u d))) 4 (.int .i64 (max 0 (g - (rem x a + rem y b + rem z c + rem u d))))
      refine bodyPost_ret (results22 rfl k1 rfl) rfl ⟨rfl, ?_⟩
      have hn : ∀ (h : w.heap.size + 1 + 1 < w.heap.size), No (w.heap.size + 1 + 1) := fun h => by omega
      have hn3 : ∀ (h : w.heap.size + 1 + 1 + 1 < w.heap.size), No (w.heap.size + 1 + 1 + 1) := fun h => by omega
      exact ((((((HR.out.kept.and HK5.out.of_drew).setCell (p := ⟨w.heap.size + 1 + 1 + 1, 4, none⟩) hn3 _).setCell (p := ⟨w.heap.size + 1 + 1, 0, none⟩) hn _).setCell (p := ⟨w.heap.size + 1 + 1, 1, none⟩) hn _).setCell (p := ⟨w.heap.size + 1 + 1, 2, none⟩) hn _).setCell (p := ⟨w.heap.size + 1 + 1, 3, none⟩) hn _).setCell (p := ⟨w.heap.size + 1 + 1, 4, none⟩) hn _
end Go.Proofs.YtogfjegedfaekaaDoor
