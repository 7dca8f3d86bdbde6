/-
  Mana: the law's texts; Letter.
-/
import Derived.Test.YtogfjegedfaekaaDoorWalkS
import Derived.Test.YtogfjegedfaekaaDoorWalkE
set_option linter.unusedVariables false
set_option linter.unusedSimpArgs false
namespace Go.Proofs.YtogfjegedfaekaaDoor
open Go.RowKit Go.Zn Go.Zm
attribute [local go_sem] Oper.semAt_some

def textS (a b c d g : Int) : ByteArray := if cost a b c d g then strOf (costT a.toNat b.toNat c.toNat d.toNat g.toNat) else ⟨#[]⟩
def textE (a b c d g : Int) : Int := if cost a b c d g then 0 else 2
theorem text_any (a b c d g : Int) (w : World) : Calls Tryd.prog 25 #[.agg #[.int .i64 a, .int .i64 b, .int .i64 c, .int .i64 d, .int .i64 g]] w fun e w' => e = .returned (.tuple #[.string (textS a b c d g), .int .i64 (textE a b c d g)]) ∧ Kept No w w' := by
  cases h : cost a b c d g
  · have e1 : textS a b c d g = ⟨#[]⟩ := by simp [textS, h]
    have e2 : textE a b c d g = 2 := by simp [textE, h]
    rw [e1, e2]
    exact text_bad a b c d g w h
  · have e1 : textS a b c d g = strOf (costT a.toNat b.toNat c.toNat d.toNat g.toNat) := by simp [textS, h]
    have e2 : textE a b c d g = 0 := by simp [textE, h]
    rw [e1, e2]
    obtain ⟨hX, g1, g2⟩ := cost_out h
    obtain ⟨⟨a1, a2⟩, ⟨b1, b2⟩, ⟨y1, y2⟩, ⟨d1, d2⟩⟩ := in4_out hX
    obtain ⟨A, rfl⟩ := Int.eq_ofNat_of_zero_le a1
    obtain ⟨B, rfl⟩ := Int.eq_ofNat_of_zero_le b1
    obtain ⟨C, rfl⟩ := Int.eq_ofNat_of_zero_le y1
    obtain ⟨D, rfl⟩ := Int.eq_ofNat_of_zero_le d1
    obtain ⟨G, rfl⟩ := Int.eq_ofNat_of_zero_le g1
    exact text_ok A B C D G w h
set_option maxRecDepth 100000 in
theorem texts_any (a b c d g : Int) (want : ByteArray) (no : Int) (w : World) : Calls Tryd.prog 28 #[.agg #[.int .i64 a, .int .i64 b, .int .i64 c, .int .i64 d, .int .i64 g], .string want, .int .i64 no] w fun e w' => e = .returned (.bool ((textS a b c d g).toList == want.toList && (textE a b c d g == no))) ∧ Kept No w w' := by
  have HC := Lib.hid (fun W => text_any a b c d g W)
  obtain ⟨t, ht⟩ : ∃ t, textS a b c d g = t := ⟨_, rfl⟩
  obtain ⟨m, hm⟩ : ∃ m, textE a b c d g = m := ⟨_, rfl⟩
  rw [ht, hm] at HC
  rw [ht, hm]
  clear ht hm
  obtain ⟨w1, hw1⟩ : ∃ w1, w.alloc (.cells #[.int .i64 a, .int .i64 b, .int .i64 c, .int .i64 d, .int .i64 g] 25) = w1 := ⟨_, rfl⟩
  have hb : w1.heap[w.heap.size]? = some (.cells #[.int .i64 a, .int .i64 b, .int .i64 c, .int .i64 d, .int .i64 g] 25 (0, 0)) := by rw [← hw1]; exact heap_alloc_new w _
  have HK1 := Lib.hid (show Kept No w w1 by rw [← hw1]; exact (Kept.refl No w).alloc _)
  have c0 := obj_cell hb 0
  have c1 := obj_cell hb 1
  have c2 := obj_cell hb 2
  have c3 := obj_cell hb 3
  have c4 := obj_cell hb 4
  clear hb
  cases hb : (t.toList == want.toList)
  · have HB := Lib.hid hb
    go_enter Tryd.func28, Tryd.ntmps28
    go_wp2_with fail
    refine (HC.out _).mono ?_
    rintro e w2 ⟨rfl, hk⟩
    have HK2 := Lib.hid (HK1.out.and hk)
    clear hk
    go_wp2_with fail
    go_ret
    exact ⟨by simp [HB.out], HK2.out⟩
  · have HB := Lib.hid hb
    go_enter Tryd.func28, Tryd.ntmps28
    go_wp2_with fail
    refine (HC.out _).mono ?_
    rintro e w2 ⟨rfl, hk⟩
    have HK2 := Lib.hid (HK1.out.and hk)
    clear hk
    go_wp2_with fail
    go_ret
    exact ⟨by simp [HB.out], HK2.out⟩
theorem mletter_bad (k : Int) (w : World) (h : col k = false) : Calls Tryd.prog 27 #[.int .i64 k] w fun e w' => e = .returned (.tuple #[.string ⟨#[]⟩, .int .i64 2]) ∧ Kept No w w' := by
  go_enter Tryd.func27, Tryd.ntmps27
  go_wp2_with fail
  refine (colour_any k _).mono ?_
  rintro e w2 ⟨rfl, rfl⟩
  rw [h]
  go_wp2_with fail
  go_ret2
  exact ⟨rfl, Kept.refl No _⟩
theorem mletter0 (w : World) : Calls Tryd.prog 27 #[.int .i64 0] w fun e w' => e = .returned (.tuple #[.string (strOf [69]), .int .i64 0]) ∧ Kept No w w' := by
  go_enter Tryd.func27, Tryd.ntmps27
  go_wp2_with fail
  refine (colour_any 0 _).mono ?_
  rintro e w2 ⟨rfl, rfl⟩
  rw [show col 0 = true from rfl]
  go_wp2_with fail
  go_ret2
  exact ⟨rfl, Kept.refl No _⟩
theorem mletter1 (w : World) : Calls Tryd.prog 27 #[.int .i64 1] w fun e w' => e = .returned (.tuple #[.string (strOf [84]), .int .i64 0]) ∧ Kept No w w' := by
  go_enter Tryd.func27, Tryd.ntmps27
  go_wp2_with fail
  refine (colour_any 1 _).mono ?_
  rintro e w2 ⟨rfl, rfl⟩
  rw [show col 1 = true from rfl]
  go_wp2_with fail
  go_ret2
  exact ⟨rfl, Kept.refl No _⟩
theorem mletter2 (w : World) : Calls Tryd.prog 27 #[.int .i64 2] w fun e w' => e = .returned (.tuple #[.string (strOf [76]), .int .i64 0]) ∧ Kept No w w' := by
  go_enter Tryd.func27, Tryd.ntmps27
  go_wp2_with fail
  refine (colour_any 2 _).mono ?_
  rintro e w2 ⟨rfl, rfl⟩
  rw [show col 2 = true from rfl]
  go_wp2_with fail
  go_ret2
  exact ⟨rfl, Kept.refl No _⟩
theorem mletter3 (w : World) : Calls Tryd.prog 27 #[.int .i64 3] w fun e w' => e = .returned (.tuple #[.string (strOf [83]), .int .i64 0]) ∧ Kept No w w' := by
  go_enter Tryd.func27, Tryd.ntmps27
  go_wp2_with fail
  refine (colour_any 3 _).mono ?_
  rintro e w2 ⟨rfl, rfl⟩
  rw [show col 3 = true from rfl]
  go_wp2_with fail
  go_ret2
  exact ⟨rfl, Kept.refl No _⟩
end Go.Proofs.YtogfjegedfaekaaDoor
