/-
  Mana: the reference's Missing.
-/
import Derived.Test.YtogfjegedfaekaaDoorWalkK
set_option linter.unusedVariables false
set_option linter.unusedSimpArgs false
namespace Go.Proofs.YtogfjegedfaekaaDoor
open Go.RowKit Go.Zn Go.Zm
attribute [local go_sem] Oper.semAt_some

def lft (a b c d x y z u : Int) : Nat → Int
  | 0 => 0
  | 1 => rem x a
  | 2 => rem x a + rem y b
  | 3 => rem x a + rem y b + rem z c
  | _ => rem x a + rem y b + rem z c + rem u d
structure RM (a b c d x y z u g : Int) (w0 : World) (k : Nat) (wr : World) : Prop where
  hm : wr.heap[w0.heap.size]? = some (.cells #[.int .i64 a, .int .i64 b, .int .i64 c, .int .i64 d] 23 (0, 0))
  hc : wr.heap[w0.heap.size + 1]? = some (.cells #[.int .i64 x, .int .i64 y, .int .i64 z, .int .i64 u, .int .i64 g] 25 (0, 0))
  hr : wr.heap[w0.heap.size + 1 + 1]? = some (.cells #[.int .i64 0, .int .i64 0, .int .i64 0, .int .i64 0, .int .i64 0] 25 (0, 0))
  ho : wr.heap[w0.heap.size + 1 + 1 + 1]? = some (.cells (oAr a b c d x y z u k) 25 (0, 0))
  kept : Kept No w0 wr
theorem RM.drewN {a b c d x y z u g : Int} {w0 : World} {k : Nat} {wr : World} (h : RM a b c d x y z u g w0 k wr) (n : Nat) : RM a b c d x y z u g w0 k (wr.drewN n) := ⟨h.hm, h.hc, h.hr, h.ho, h.kept.drewN n⟩
theorem RM.drew {a b c d x y z u g : Int} {w0 : World} {k : Nat} {wr : World} (h : RM a b c d x y z u g w0 k wr) : RM a b c d x y z u g w0 k wr.drew := ⟨h.hm, h.hc, h.hr, h.ho, h.kept.drew⟩
theorem RM.same {a b c d x y z u g : Int} {w0 : World} {k j : Nat} {wr : World} (h : RM a b c d x y z u g w0 k wr) (e : oAr a b c d x y z u j = oAr a b c d x y z u k) : RM a b c d x y z u g w0 j wr := ⟨h.hm, h.hc, h.hr, by rw [e]; exact h.ho, h.kept⟩
theorem RM.put {a b c d x y z u g : Int} {w0 : World} {k : Nat} {wr : World} (h : RM a b c d x y z u g w0 k wr) (v : Int) (e : oAr a b c d x y z u (k + 1) = (oAr a b c d x y z u k).setIfInBounds k (.int .i64 v)) : RM a b c d x y z u g w0 (k + 1) (wr.setCell ⟨w0.heap.size + 1 + 1 + 1, k, none⟩ (.int .i64 v)) :=
  ⟨obj_setCell h.hm _ (by simp <;> omega), obj_setCell h.hc _ (by simp <;> omega), obj_setCell h.hr _ (by simp <;> omega), by rw [e]; exact obj_store h.ho k _, h.kept.setCell (fun h => by simp at h; omega) _⟩
theorem results19 {W : World} {tmps : Array Value} {g : Nat} {cs : Array Value} (ht : tmps.getD 4 undef = .pointer (some ⟨g, 0, none⟩)) (hh : W.heap[g]? = some (.cells cs 25 (0, 0))) (hs : cs.size = 5) :
    (results Tryd.f19 tmps).run Tryd.prog W = .ok (.agg cs) W :=
  results_cell_row (p := 4) (ty := 25) rfl tmps W g 25 cs (0, 0) _ ht hh Tryd.underlying25 rfl (by rw [hs]; kernel_rfl)
set_option maxRecDepth 100000 in
set_option maxHeartbeats 2000000 in
theorem rmiss_ok (a b c d x y z u g : Int) (w : World) (h : in4 99 a b c d = true) (h2 : cost x y z u g = true) : Calls Tryd.prog 19 #[.agg #[.int .i64 a, .int .i64 b, .int .i64 c, .int .i64 d], .agg #[.int .i64 x, .int .i64 y, .int .i64 z, .int .i64 u, .int .i64 g]] w fun e w' => e = .returned (.agg #[.int .i64 (mis x a), .int .i64 (mis y b), .int .i64 (mis z c), .int .i64 (mis u d), .int .i64 (lack ⟨x, y, z, u⟩ ⟨a, b, c, d⟩ g)]) ∧ Kept No w w' := by
  obtain ⟨⟨a1, a2⟩, ⟨b1, b2⟩, ⟨e1, e2⟩, ⟨d1, d2⟩⟩ := in4_out h
  obtain ⟨hX, g1, g2⟩ := cost_out h2
  obtain ⟨⟨x1, x2⟩, ⟨y1, y2⟩, ⟨z1, z2⟩, ⟨u1, u2⟩⟩ := in4_out hX
  clear hX h h2
  obtain ⟨w1, hw1⟩ : ∃ w1, (((w.alloc (.cells #[.int .i64 a, .int .i64 b, .int .i64 c, .int .i64 d] 23)).alloc (.cells #[.int .i64 x, .int .i64 y, .int .i64 z, .int .i64 u, .int .i64 g] 25)).alloc (.cells #[.int .i64 0, .int .i64 0, .int .i64 0, .int .i64 0, .int .i64 0] 25)).alloc (.cells #[.int .i64 0, .int .i64 0, .int .i64 0, .int .i64 0, .int .i64 0] 25) = w1 := ⟨_, rfl⟩
  have HR := Lib.hid (show RM a b c d x y z u g w 0 w1 by
    rw [← hw1]
    exact ⟨obj_alloc (obj_alloc (obj_alloc (heap_alloc_new w _) _) _) _, obj_alloc (obj_alloc (World.alloc_at (by simp) _) _) _, obj_alloc (World.alloc_at (by simp) _) _, World.alloc_at (by simp) _, ((((Kept.refl No w).alloc _).alloc _).alloc _).alloc _⟩)
  go_enter Tryd.func19, Tryd.ntmps19
  go_wp2_with fail
  go_loopw [6, 7] (fun l i wr => ∃ k : Nat, ∃ L : Int, i = .int .i64 (k : Nat) ∧ k ≤ 4 ∧ l = .int .i64 L ∧ L = lft a b c d x y z u k ∧ RM a b c d x y z u g w k wr) (fun _ i _ => 4 - (intOf i).toNat)
  case atStart => exact ⟨0, 0, rfl, by decide, rfl, rfl, HR.out⟩
  case round =>
    obtain ⟨k, L, rfl, hk4, rfl, hL, hp⟩ := hrel
    have HL := Lib.hid hL
    clear hL
    obtain rfl | rfl | rfl | rfl | rfl : k = 0 ∨ k = 1 ∨ k = 2 ∨ k = 3 ∨ k = 4 := by omega
    · have hLb : 0 ≤ L ∧ L ≤ 297 := by have := HL.out; simp only [lft, rem] at this; omega
      have cm : wr.cell? ⟨w.heap.size, 0, none⟩ = some (.int .i64 a) := obj_cell hp.hm 0
      have cx : wr.cell? ⟨w.heap.size + 1, 0, none⟩ = some (.int .i64 x) := obj_cell hp.hc 0
      have co : wr.cell? ⟨w.heap.size + 1 + 1 + 1, 0, none⟩ = some (.int .i64 0) := obj_cell hp.ho 0
      have fo : wr.frozen? ⟨w.heap.size + 1 + 1 + 1, 0, none⟩ = false := obj_free hp.ho 0
      have HP := Lib.hid hp
      clear hp
      by_cases hlt : a < x
      · have hmis : mis x a = x - a := by unfold mis; omega
        have hrem : rem x a = 0 := by unfold rem; omega
        have HPN := Lib.hid (fun n : Nat => (HP.out.drewN n).put (x - a) (by rw [← hmis]; rfl))
        have HLN := Lib.hid (show L = lft a b c d x y z u 1 by rw [HL.out]; simp only [lft, hrem] <;> omega)
        clear hmis hrem
        go_wp2_with fail
        go_quiet (fail)
        all_goals go_wp2_with fail
        have hws : IntKind.i64.wrap (x - a) = x - a := IntWalk.i64_in _ (by omega)
        go_region_held3 (fun w' => w'.cell? ⟨w.heap.size, 0, none⟩ = some (.int .i64 a) ∧ w'.cell? ⟨w.heap.size + 1, 0, none⟩ = some (.int .i64 x)) (first | go_keep | exact ⟨cell_far cm (by simp <;> omega), cell_far cx (by simp <;> omega)⟩)
          (fail)
        all_goals go_wp2_with fail
        all_goals exact ⟨⟨1, L, by go_num, by decide, rfl, HLN.out, HPN.out _⟩, by simp [intOf]⟩
      · have hmis : mis x a = 0 := by unfold mis; omega
        have hrem : rem x a = a - x := by unfold rem; omega
        have HPN := Lib.hid (fun n : Nat => (HP.out.drewN n).same (j := 1) (by simp only [oAr, hmis]))
        have HLN := Lib.hid (show L + a - x = lft a b c d x y z u 1 by rw [HL.out]; simp only [lft, hrem] <;> omega)
        clear hmis hrem
        have hw1 : IntKind.i64.wrap (L + a) = L + a := IntWalk.i64_in _ (by omega)
        have hw2 : IntKind.i64.wrap (L + a - x) = L + a - x := IntWalk.i64_in _ (by omega)
        go_wp2_with fail
        go_quiet (fail)
        all_goals go_wp2_with fail
        go_quiet (fail)
        all_goals go_wp2_with fail
        all_goals exact ⟨⟨1, _, by go_num, by decide, rfl, HLN.out, HPN.out _⟩, by simp [intOf]⟩
    · have hLb : 0 ≤ L ∧ L ≤ 297 := by have := HL.out; simp only [lft, rem] at this; omega
      have cm : wr.cell? ⟨w.heap.size, 1, none⟩ = some (.int .i64 b) := obj_cell hp.hm 1
      have cx : wr.cell? ⟨w.heap.size + 1, 1, none⟩ = some (.int .i64 y) := obj_cell hp.hc 1
      have co : wr.cell? ⟨w.heap.size + 1 + 1 + 1, 1, none⟩ = some (.int .i64 0) := obj_cell hp.ho 1
      have fo : wr.frozen? ⟨w.heap.size + 1 + 1 + 1, 1, none⟩ = false := obj_free hp.ho 1
      have HP := Lib.hid hp
      clear hp
      by_cases hlt : b < y
      · have hmis : mis y b = y - b := by unfold mis; omega
        have hrem : rem y b = 0 := by unfold rem; omega
        have HPN := Lib.hid (fun n : Nat => (HP.out.drewN n).put (y - b) (by rw [← hmis]; rfl))
        have HLN := Lib.hid (show L = lft a b c d x y z u 2 by rw [HL.out]; simp only [lft, hrem] <;> omega)
        clear hmis hrem
        go_wp2_with fail
        go_quiet (fail)
        all_goals go_wp2_with fail
        have hws : IntKind.i64.wrap (y - b) = y - b := IntWalk.i64_in _ (by omega)
        go_region_held3 (fun w' => w'.cell? ⟨w.heap.size, 1, none⟩ = some (.int .i64 b) ∧ w'.cell? ⟨w.heap.size + 1, 1, none⟩ = some (.int .i64 y)) (first | go_keep | exact ⟨cell_far cm (by simp <;> omega), cell_far cx (by simp <;> omega)⟩)
          (fail)
        all_goals go_wp2_with fail
        all_goals exact ⟨⟨2, L, by go_num, by decide, rfl, HLN.out, HPN.out _⟩, by simp [intOf]⟩
      · have hmis : mis y b = 0 := by unfold mis; omega
        have hrem : rem y b = b - y := by unfold rem; omega
        have HPN := Lib.hid (fun n : Nat => (HP.out.drewN n).same (j := 2) (by simp only [oAr, hmis]))
        have HLN := Lib.hid (show L + b - y = lft a b c d x y z u 2 by rw [HL.out]; simp only [lft, hrem] <;> omega)
        clear hmis hrem
        have hw1 : IntKind.i64.wrap (L + b) = L + b := IntWalk.i64_in _ (by omega)
        have hw2 : IntKind.i64.wrap (L + b - y) = L + b - y := IntWalk.i64_in _ (by omega)
        go_wp2_with fail
        go_quiet (fail)
        all_goals go_wp2_with fail
        go_quiet (fail)
        all_goals go_wp2_with fail
        all_goals exact ⟨⟨2, _, by go_num, by decide, rfl, HLN.out, HPN.out _⟩, by simp [intOf]⟩
    · have hLb : 0 ≤ L ∧ L ≤ 297 := by have := HL.out; simp only [lft, rem] at this; omega
      have cm : wr.cell? ⟨w.heap.size, 2, none⟩ = some (.int .i64 c) := obj_cell hp.hm 2
      have cx : wr.cell? ⟨w.heap.size + 1, 2, none⟩ = some (.int .i64 z) := obj_cell hp.hc 2
      have co : wr.cell? ⟨w.heap.size + 1 + 1 + 1, 2, none⟩ = some (.int .i64 0) := obj_cell hp.ho 2
      have fo : wr.frozen? ⟨w.heap.size + 1 + 1 + 1, 2, none⟩ = false := obj_free hp.ho 2
      have HP := Lib.hid hp
      clear hp
      by_cases hlt : c < z
      · have hmis : mis z c = z - c := by unfold mis; omega
        have hrem : rem z c = 0 := by unfold rem; omega
        have HPN := Lib.hid (fun n : Nat => (HP.out.drewN n).put (z - c) (by rw [← hmis]; rfl))
        have HLN := Lib.hid (show L = lft a b c d x y z u 3 by rw [HL.out]; simp only [lft, hrem] <;> omega)
        clear hmis hrem
        go_wp2_with fail
        go_quiet (fail)
        all_goals go_wp2_with fail
        have hws : IntKind.i64.wrap (z - c) = z - c := IntWalk.i64_in _ (by omega)
        go_region_held3 (fun w' => w'.cell? ⟨w.heap.size, 2, none⟩ = some (.int .i64 c) ∧ w'.cell? ⟨w.heap.size + 1, 2, none⟩ = some (.int .i64 z)) (first | go_keep | exact ⟨cell_far cm (by simp <;> omega), cell_far cx (by simp <;> omega)⟩)
          (fail)
        all_goals go_wp2_with fail
        all_goals exact ⟨⟨3, L, by go_num, by decide, rfl, HLN.out, HPN.out _⟩, by simp [intOf]⟩
      · have hmis : mis z c = 0 := by unfold mis; omega
        have hrem : rem z c = c - z := by unfold rem; omega
        have HPN := Lib.hid (fun n : Nat => (HP.out.drewN n).same (j := 3) (by simp only [oAr, hmis]))
        have HLN := Lib.hid (show L + c - z = lft a b c d x y z u 3 by rw [HL.out]; simp only [lft, hrem] <;> omega)
        clear hmis hrem
        have hw1 : IntKind.i64.wrap (L + c) = L + c := IntWalk.i64_in _ (by omega)
        have hw2 : IntKind.i64.wrap (L + c - z) = L + c - z := IntWalk.i64_in _ (by omega)
        go_wp2_with fail
        go_quiet (fail)
        all_goals go_wp2_with fail
        go_quiet (fail)
        all_goals go_wp2_with fail
        all_goals exact ⟨⟨3, _, by go_num, by decide, rfl, HLN.out, HPN.out _⟩, by simp [intOf]⟩
    · have hLb : 0 ≤ L ∧ L ≤ 297 := by have := HL.out; simp only [lft, rem] at this; omega
      have cm : wr.cell? ⟨w.heap.size, 3, none⟩ = some (.int .i64 d) := obj_cell hp.hm 3
      have cx : wr.cell? ⟨w.heap.size + 1, 3, none⟩ = some (.int .i64 u) := obj_cell hp.hc 3
      have co : wr.cell? ⟨w.heap.size + 1 + 1 + 1, 3, none⟩ = some (.int .i64 0) := obj_cell hp.ho 3
      have fo : wr.frozen? ⟨w.heap.size + 1 + 1 + 1, 3, none⟩ = false := obj_free hp.ho 3
      have HP := Lib.hid hp
      clear hp
      by_cases hlt : d < u
      · have hmis : mis u d = u - d := by unfold mis; omega
        have hrem : rem u d = 0 := by unfold rem; omega
        have HPN := Lib.hid (fun n : Nat => (HP.out.drewN n).put (u - d) (by rw [← hmis]; rfl))
        have HLN := Lib.hid (show L = lft a b c d x y z u 4 by rw [HL.out]; simp only [lft, hrem] <;> omega)
        clear hmis hrem
        go_wp2_with fail
        go_quiet (fail)
        all_goals go_wp2_with fail
        have hws : IntKind.i64.wrap (u - d) = u - d := IntWalk.i64_in _ (by omega)
        go_region_held3 (fun w' => w'.cell? ⟨w.heap.size, 3, none⟩ = some (.int .i64 d) ∧ w'.cell? ⟨w.heap.size + 1, 3, none⟩ = some (.int .i64 u)) (first | go_keep | exact ⟨cell_far cm (by simp <;> omega), cell_far cx (by simp <;> omega)⟩)
          (fail)
        all_goals go_wp2_with fail
        all_goals exact ⟨⟨4, L, by go_num, by decide, rfl, HLN.out, HPN.out _⟩, by simp [intOf]⟩
      · have hmis : mis u d = 0 := by unfold mis; omega
        have hrem : rem u d = d - u := by unfold rem; omega
        have HPN := Lib.hid (fun n : Nat => (HP.out.drewN n).same (j := 4) (by simp only [oAr, hmis]))
        have HLN := Lib.hid (show L + d - u = lft a b c d x y z u 4 by rw [HL.out]; simp only [lft, hrem] <;> omega)
        clear hmis hrem
        have hw1 : IntKind.i64.wrap (L + d) = L + d := IntWalk.i64_in _ (by omega)
        have hw2 : IntKind.i64.wrap (L + d - u) = L + d - u := IntWalk.i64_in _ (by omega)
        go_wp2_with fail
        go_quiet (fail)
        all_goals go_wp2_with fail
        go_quiet (fail)
        all_goals go_wp2_with fail
        all_goals exact ⟨⟨4, _, by go_num, by decide, rfl, HLN.out, HPN.out _⟩, by simp [intOf]⟩
    · have hLb : 0 ≤ L ∧ L ≤ 396 := by have := HL.out; simp only [lft, rem] at this; omega
      have hlk : lack ⟨x, y, z, u⟩ ⟨a, b, c, d⟩ g = max 0 (g - L) := by rw [HL.out]; rfl
      have d4 : wr.cell? ⟨w.heap.size + 1, 4, none⟩ = some (.int .i64 g) := obj_cell hp.hc 4
      have o0 : wr.cell? ⟨w.heap.size + 1 + 1 + 1, 0, none⟩ = some (.int .i64 (mis x a)) := obj_cell hp.ho 0
      have o1 : wr.cell? ⟨w.heap.size + 1 + 1 + 1, 1, none⟩ = some (.int .i64 (mis y b)) := obj_cell hp.ho 1
      have o2 : wr.cell? ⟨w.heap.size + 1 + 1 + 1, 2, none⟩ = some (.int .i64 (mis z c)) := obj_cell hp.ho 2
      have o3 : wr.cell? ⟨w.heap.size + 1 + 1 + 1, 3, none⟩ = some (.int .i64 (mis u d)) := obj_cell hp.ho 3
      have o4 : wr.cell? ⟨w.heap.size + 1 + 1 + 1, 4, none⟩ = some (.int .i64 0) := obj_cell hp.ho 4
      have fo : wr.frozen? ⟨w.heap.size + 1 + 1 + 1, 4, none⟩ = false := obj_free hp.ho 4
      have z0 := obj_cell hp.hr 0
      have z1 := obj_cell hp.hr 1
      have z2 := obj_cell hp.hr 2
      have z3 := obj_cell hp.hr 3
      have z4 := obj_cell hp.hr 4
      have f0 := obj_free hp.hr 0
      have f1 := obj_free hp.hr 1
      have f2 := obj_free hp.hr 2
      have f3 := obj_free hp.hr 3
      have f4 := obj_free hp.hr 4
      have HP := Lib.hid hp
      clear hp
      by_cases hlt : L < g
      · have HG := Lib.hid (show g - L = lack ⟨x, y, z, u⟩ ⟨a, b, c, d⟩ g by rw [hlk]; omega)
        clear hlk
        have hZ := obj_setCell HP.out.hr (p := ⟨w.heap.size + 1 + 1 + 1, 4, none⟩) (.int .i64 (g - L)) (by simp)
        have HZ9 := Lib.hid hZ
        clear hZ
        go_wp2_with fail
        have k1 := obj_store (obj_store (obj_store (obj_store (obj_store HZ9.out 0 (.int .i64 (mis x a))) 1 (.int .i64 (mis y b))) 2 (.int .i64 (mis z c))) 3 (.int .i64 (mis u d))) 4 (.int .i64 (g - L))
        refine bodyPost_ret (results19 rfl k1 rfl) rfl ⟨?_, ?_⟩
        · exact congrArg (fun v : Int => Ending.returned (.agg #[.int .i64 (mis x a), .int .i64 (mis y b), .int .i64 (mis z c), .int .i64 (mis u d), .int .i64 v])) HG.out
        have hn : ∀ (h : w.heap.size + 1 + 1 < w.heap.size), No (w.heap.size + 1 + 1) := fun h => by omega
        have hn3 : ∀ (h : w.heap.size + 1 + 1 + 1 < w.heap.size), No (w.heap.size + 1 + 1 + 1) := fun h => by omega
        exact (((((HP.out.kept.setCell (p := ⟨w.heap.size + 1 + 1 + 1, 4, none⟩) hn3 _).setCell (p := ⟨w.heap.size + 1 + 1, 0, none⟩) hn _).setCell (p := ⟨w.heap.size + 1 + 1, 1, none⟩) hn _).setCell (p := ⟨w.heap.size + 1 + 1, 2, none⟩) hn _).setCell (p := ⟨w.heap.size + 1 + 1, 3, none⟩) hn _).setCell (p := ⟨w.heap.size + 1 + 1, 4, none⟩) hn _
      · have HG := Lib.hid (show 0 = lack ⟨x, y, z, u⟩ ⟨a, b, c, d⟩ g by rw [hlk]; omega)
        clear hlk
        have HZ9 := Lib.hid HP.out.hr
        go_wp2_with fail
        have k1 := obj_store (obj_store (obj_store (obj_store (obj_store HZ9.out 0 (.int .i64 (mis x a))) 1 (.int .i64 (mis y b))) 2 (.int .i64 (mis z c))) 3 (.int .i64 (mis u d))) 4 (.int .i64 0)
        refine bodyPost_ret (results19 rfl k1 rfl) rfl ⟨?_, ?_⟩
        · exact congrArg (fun v : Int => Ending.returned (.agg #[.int .i64 (mis x a), .int .i64 (mis y b), .int .i64 (mis z c), .int .i64 (mis u d), .int .i64 v])) HG.out
        have hn : ∀ (h : w.heap.size + 1 + 1 < w.heap.size), No (w.heap.size + 1 + 1) := fun h => by omega
        have hn3 : ∀ (h : w.heap.size + 1 + 1 + 1 < w.heap.size), No (w.heap.size + 1 + 1 + 1) := fun h => by omega
        exact (((((HP.out.kept).setCell (p := ⟨w.heap.size + 1 + 1, 0, none⟩) hn _).setCell (p := ⟨w.heap.size + 1 + 1, 1, none⟩) hn _).setCell (p := ⟨w.heap.size + 1 + 1, 2, none⟩) hn _).setCell (p := ⟨w.heap.size + 1 + 1, 3, none⟩) hn _).setCell (p := ⟨w.heap.size + 1 + 1, 4, none⟩) hn _
end Go.Proofs.YtogfjegedfaekaaDoor
