/-
  Pool: the value of a cost (turned from Mana's text); cards that are still.
-/
import Derived.Test.YtclgoilfclmibaaGreatDoorWalkG
import Derived.Deep.RegionWith
set_option linter.unusedVariables false
set_option linter.unusedSimpArgs false
namespace Go.Proofs.YtclgoilfclmibaaGreatDoor
open Go.RowKit Go.Zn
attribute [local go_sem] Oper.semAt_some

theorem in4_mono {m m' a b c d : Int} (h : in4 m a b c d = true) (hm : m ≤ m') : in4 m' a b c d = true := by
  obtain ⟨⟨a1, a2⟩, ⟨b1, b2⟩, ⟨e1, e2⟩, ⟨d1, d2⟩⟩ := in4_out h
  exact in4_yes fun j hj => by
    obtain rfl | rfl | rfl | rfl : j = 0 ∨ j = 1 ∨ j = 2 ∨ j = 3 := by omega
    · exact ⟨a1, show a ≤ m' by omega⟩
    · exact ⟨b1, show b ≤ m' by omega⟩
    · exact ⟨e1, show c ≤ m' by omega⟩
    · exact ⟨d1, show d ≤ m' by omega⟩
theorem cost_out {a b c d g : Int} (h : cost a b c d g = true) : in4 20 a b c d = true ∧ 0 ≤ g ∧ g ≤ 20 := by
  unfold cost at h
  simp at h
  exact ⟨h.1.1, h.1.2, h.2⟩
def val (a b c d g : Int) : Int := if cost a b c d g then a + b + c + d + g else 0
set_option maxRecDepth 100000 in
set_option maxHeartbeats 800000 in
theorem value_any (a b c d g : Int) (w : World) : Calls Tryz.prog 53 #[.agg #[.int .i64 a, .int .i64 b, .int .i64 c, .int .i64 d, .int .i64 g]] w fun e w' => e = .returned (.int .i64 (val a b c d g)) ∧ Kept No w w' := by
  obtain ⟨w1, hw1⟩ : ∃ w1, w.alloc (.cells #[.int .i64 a, .int .i64 b, .int .i64 c, .int .i64 d, .int .i64 g] 40) = w1 := ⟨_, rfl⟩
  have hb : w1.heap[w.heap.size]? = some (.cells #[.int .i64 a, .int .i64 b, .int .i64 c, .int .i64 d, .int .i64 g] 40 (0, 0)) := by rw [← hw1]; exact heap_alloc_new w _
  have HK1 := Lib.hid (show Kept No w w1 by rw [← hw1]; exact (Kept.refl No w).alloc _)
  have c0 := obj_cell hb 0
  have c1 := obj_cell hb 1
  have c2 := obj_cell hb 2
  have c3 := obj_cell hb 3
  have c4 := obj_cell hb 4
  have HB := Lib.hid hb
  clear hb
  go_enter Tryz.func53, Tryz.ntmps53
  go_wp2_with fail
  refine (validCost_any a b c d g _).mono ?_
  rintro e w' ⟨rfl, hk⟩
  have hb2 := hk.obj HB.out (not_no _)
  have c0 := obj_cell hb2 0
  have c1 := obj_cell hb2 1
  have c2 := obj_cell hb2 2
  have c3 := obj_cell hb2 3
  have c4 := obj_cell hb2 4
  have HK := Lib.hid (HK1.out.and hk)
  have HB2 := Lib.hid hb2
  clear hk hb2
  cases hi : cost a b c d g
  · have hr : val a b c d g = 0 := by unfold val; rw [hi]; rfl
    go_wp2_with fail
    go_ret
    exact ⟨by first | rfl | (rw [hr]; rfl) | simp [hr], HK.out⟩
  · have hr : val a b c d g = a + b + c + d + g := by unfold val; rw [hi]; rfl
    obtain ⟨h20, g1, g2⟩ := cost_out hi
    obtain ⟨⟨a1, a2⟩, ⟨b1, b2⟩, ⟨e1, e2⟩, ⟨d1, d2⟩⟩ := in4_out h20
    have HI := Lib.hid (in4_mono (m' := 99) h20 (by decide))
    have hwr : IntKind.i64.wrap (a + b + c + d + g) = a + b + c + d + g := IntWalk.i64_in _ (by omega)
    clear hi h20
    go_wp2_with fail
    go_region_with (go_at_call 75; refine (sum_any a b c d _ HI.out).mono ?_; rintro e w2 ⟨rfl, hk2⟩; have hk3 : Kept No w' w2 := (by first | exact hk2 | exact hk2.of_drew); have c5 := obj_cell (hk3.obj HB2.out (not_no _)) 4; have HK3 := Lib.hid hk3; clear hk2 hk3)
    all_goals (go_wp2_with fail)
    all_goals (try simp only [Act.put])
    all_goals go_ret
    all_goals exact ⟨by first | rfl | (rw [hr]; rfl) | simp [hr, hwr], by first | exact (HK.out.and HK3.out) | exact (HK.out.and HK3.out).drew⟩
end Go.Proofs.YtclgoilfclmibaaGreatDoor
