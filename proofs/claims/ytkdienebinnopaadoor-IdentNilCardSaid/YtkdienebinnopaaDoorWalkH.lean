/-
  IdentNil: the walk.
-/
import Derived.Test.YtkdienebinnopaaDoorWalkG
namespace Go.Proofs.YtkdienebinnopaaDoor
open Go.RowKit Go.Zn Go.Shelf
attribute [local go_sem] Oper.semAt_some

def NilRel (w0 : World) (i : Value) (wr : World) : Prop := (i = .int .i64 0 ∨ i = .int .i64 1 ∨ i = .int .i64 2) ∧ Kept No w0 wr
set_option maxRecDepth 100000 in
set_option maxHeartbeats 3200000 in
theorem nil_any (id : Int) (w : World) (hl : Laid w) : Calls Tryd.prog 7 #[.int .i64 id] w fun e w' => e = .returned (.bool true) ∧ Kept No w w' := by
  have HL := Lib.hid hl
  clear hl
  go_enter Tryd.func7, Tryd.ntmps7
  go_wp2_with fail
  obtain ⟨w0, hw0⟩ : ∃ w0, (w.alloc (.cells #[.int .i64 0, .slice none 0 0] 54)).alloc (.cells #[.pointer none, .pointer (some ⟨w.heap.size, 0, none⟩)] 24) = w0 := ⟨_, rfl⟩
  have HK0 := Lib.hid (show Kept No w w0 by rw [← hw0]; exact ((Kept.refl No w).alloc _).alloc _)
  have d0 : w0.cell? ⟨w.heap.size, 0, none⟩ = some (.int .i64 0) := by rw [← hw0]; exact obj_cell (obj_alloc (heap_alloc_new w _) _) 0
  have d1 : w0.cell? ⟨w.heap.size + 1, 0, none⟩ = some (.pointer none) := by rw [← hw0]; exact obj_cell (World.alloc_at (by simp) _) 0
  have d2 : w0.cell? ⟨w.heap.size + 1, 1, none⟩ = some (.pointer (some ⟨w.heap.size, 0, none⟩)) := by rw [← hw0]; exact obj_cell (World.alloc_at (by simp) _) 1
  rw [hw0]
  clear hw0
  have D0 := Lib.hid d0
  have D1 := Lib.hid d1
  have D2 := Lib.hid d2
  clear d0 d1 d2
  go_loopw [11] (fun i wr => NilRel w0 i wr) (fun i _ => 2 - (intOf i).toNat)
  case atStart => exact ⟨.inl rfl, Kept.refl _ _⟩
  case round =>
    obtain ⟨hi, hk⟩ := hrel
    have HK := Lib.hid hk
    clear hk
    rcases hi with rfl | rfl | rfl
    · have g1 : wr.cell? ⟨w.heap.size + 1, 0, none⟩ = some (.pointer none) := HK.out.cell D1.out (not_no _)
      have HZ := Lib.hid (zero_nil wr)
      go_wp2_with fail
      refine (takes_zero HZ.out).mono ?_
      rintro e w' ⟨rfl, rfl⟩
      go_wp2_with fail
      refine (claim_zero id HZ.out).mono ?_
      rintro e w' ⟨rfl, rfl⟩
      go_wp2_with fail
      refine (free_zero id HZ.out).mono ?_
      rintro e w' ⟨rfl, rfl⟩
      go_wp2_with fail
      refine (has_zero id HZ.out).mono ?_
      rintro e w' ⟨rfl, rfl⟩
      go_wp2_with fail
      refine (len_zero HZ.out).mono ?_
      rintro e w' ⟨rfl, rfl⟩
      go_wp2_with fail
      refine (room_zero HZ.out).mono ?_
      rintro e w' ⟨rfl, rfl⟩
      go_wp2_with fail
      refine (all_any (t := fun _ => false) (most := 0) (Nat.zero_le _) (allf_zero HZ.out) (fun _ => True) (.slice none 0 0) (rd_nil _ _ _)).mono ?_
      rintro e w' ⟨rfl, hk7⟩
      have HK7 := Lib.hid hk7
      clear hk7
      go_wp2_with fail
      refine (copy_zero (zero_nil _)).mono ?_
      rintro e w' ⟨rfl, rfl⟩
      go_wp2_with fail
      exact ⟨⟨.inr (.inl rfl), HK.out.and HK7.out⟩, by decide⟩
    · have g1 : wr.cell? ⟨w.heap.size + 1, 1, none⟩ = some (.pointer (some ⟨w.heap.size, 0, none⟩)) := HK.out.cell D2.out (not_no _)
      have HZ := Lib.hid (zero_zero w.heap.size wr (HK.out.cell D0.out (not_no _)))
      go_wp2_with fail
      refine (takes_zero HZ.out).mono ?_
      rintro e w' ⟨rfl, rfl⟩
      go_wp2_with fail
      refine (claim_zero id HZ.out).mono ?_
      rintro e w' ⟨rfl, rfl⟩
      go_wp2_with fail
      refine (free_zero id HZ.out).mono ?_
      rintro e w' ⟨rfl, rfl⟩
      go_wp2_with fail
      refine (has_zero id HZ.out).mono ?_
      rintro e w' ⟨rfl, rfl⟩
      go_wp2_with fail
      refine (len_zero HZ.out).mono ?_
      rintro e w' ⟨rfl, rfl⟩
      go_wp2_with fail
      refine (room_zero HZ.out).mono ?_
      rintro e w' ⟨rfl, rfl⟩
      go_wp2_with fail
      refine (all_any (t := fun _ => false) (most := 0) (Nat.zero_le _) (allf_zero HZ.out) (fun _ => True) (.slice none 0 0) (rd_nil _ _ _)).mono ?_
      rintro e w' ⟨rfl, hk7⟩
      have HK7 := Lib.hid hk7
      clear hk7
      go_wp2_with fail
      refine (copy_zero (zero_zero w.heap.size _ ((HK.out.and HK7.out).cell D0.out (not_no _)))).mono ?_
      rintro e w' ⟨rfl, rfl⟩
      go_wp2_with fail
      exact ⟨⟨.inr (.inr rfl), HK.out.and HK7.out⟩, by decide⟩
    · go_wp2_with fail
      refine (known_any _ (HL.out.kept (HK0.out.and HK.out) (not_no _))).mono ?_
      rintro e w' ⟨rfl, hk9⟩
      have HK9 := Lib.hid hk9
      clear hk9
      go_wp2_with fail
      go_ret
      exact ⟨rfl, (HK0.out.and HK.out).and HK9.out⟩
end Go.Proofs.YtkdienebinnopaaDoor
