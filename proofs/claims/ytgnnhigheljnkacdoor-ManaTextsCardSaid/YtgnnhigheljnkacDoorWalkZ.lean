/-
  Mana: the walk of ManaTexts.
-/
import Derived.Test.YtgnnhigheljnkacDoorWalkX
set_option linter.unusedVariables false
set_option linter.unusedSimpArgs false
namespace Go.Proofs.YtgnnhigheljnkacDoor
open Go.RowKit Go.Zn Go.Zm
attribute [local go_sem] Oper.semAt_some

theorem texts_bad {a b c d g : Int} (h : cost a b c d g = false) (W : World) : Calls Tryd.prog 28 #[.agg #[.int .i64 a, .int .i64 b, .int .i64 c, .int .i64 d, .int .i64 g], .string ⟨#[]⟩, .int .i64 2] W fun e w' => e = .returned (.bool true) ∧ Kept No W w' :=
  (texts_any a b c d g ⟨#[]⟩ 2 W).mono fun e w' ⟨he, hk⟩ => ⟨he.trans (by
    unfold textS textE
    rw [h]
    simp), hk⟩
theorem texts_good {a b c d g : Int} (h : cost a b c d g = true) (W : World) : Calls Tryd.prog 28 #[.agg #[.int .i64 a, .int .i64 b, .int .i64 c, .int .i64 d, .int .i64 g], .string (strOf (costT a.toNat b.toNat c.toNat d.toNat g.toNat)), .int .i64 0] W fun e w' => e = .returned (.bool true) ∧ Kept No W w' :=
  (texts_any a b c d g _ 0 W).mono fun e w' ⟨he, hk⟩ => ⟨he.trans (by
    unfold textS textE
    rw [h]
    simp), hk⟩
theorem rtext_any {a b c d g : Int} (h : cost a b c d g = true) (W : World) : Calls Tryd.prog 29 #[.agg #[.int .i64 a, .int .i64 b, .int .i64 c, .int .i64 d, .int .i64 g]] W fun e w' => e = .returned (.string (strOf (costT a.toNat b.toNat c.toNat d.toNat g.toNat))) ∧ Kept No W w' := by
  obtain ⟨hX, g1, g2⟩ := cost_out h
  obtain ⟨⟨a1, a2⟩, ⟨b1, b2⟩, ⟨y1, y2⟩, ⟨d1, d2⟩⟩ := in4_out hX
  obtain ⟨A, rfl⟩ := Int.eq_ofNat_of_zero_le a1
  obtain ⟨B, rfl⟩ := Int.eq_ofNat_of_zero_le b1
  obtain ⟨C, rfl⟩ := Int.eq_ofNat_of_zero_le y1
  obtain ⟨D, rfl⟩ := Int.eq_ofNat_of_zero_le d1
  obtain ⟨G, rfl⟩ := Int.eq_ofNat_of_zero_le g1
  exact rtext_ok A B C D G W h
set_option maxRecDepth 100000 in
set_option maxHeartbeats 4000000 in
theorem walk_texts0 (a b c d g : Int) (w : World) (hE : Errs w) : Calls Tryd.prog 7 #[.agg #[.int .i64 a, .int .i64 b, .int .i64 c, .int .i64 d, .int .i64 g], .int .i64 0] w fun e w' => e = .returned (.bool true) ∧ Kept No w w' := by
  have hs1 : ((strOf [69]).toList == ((⟨#[69, 84, 76, 83]⟩ : ByteArray).extract 0 1).toList) = true := by
    show ((strOf [69]).toList == (strOf [69]).toList) = true
    simp
  have hs2 : ((strOf [69]).toList != ((⟨#[69, 84, 76, 83]⟩ : ByteArray).extract 0 1).toList) = false := by
    show ((strOf [69]).toList != (strOf [69]).toList) = false
    simp
  obtain ⟨w1, hw1⟩ : ∃ w1, w.alloc (.cells #[.int .i64 a, .int .i64 b, .int .i64 c, .int .i64 d, .int .i64 g] 25) = w1 := ⟨_, rfl⟩
  have hb : w1.heap[w.heap.size]? = some (.cells #[.int .i64 a, .int .i64 b, .int .i64 c, .int .i64 d, .int .i64 g] 25 (0, 0)) := by rw [← hw1]; exact heap_alloc_new w _
  have HK1 := Lib.hid (show Kept No w w1 by rw [← hw1]; exact (Kept.refl No w).alloc _)
  have HB1 := Lib.hid hb
  have HE := Lib.hid hE
  clear hb hE
  go_enter Tryd.func7, Tryd.ntmps7
  go_wp2_with fail
  refine (mletter0 _).mono ?_
  rintro e w2 ⟨rfl, hk⟩
  have hb2 := hk.obj HB1.out (not_no _)
  have c0 := obj_cell hb2 0
  have c1 := obj_cell hb2 1
  have c2 := obj_cell hb2 2
  have c3 := obj_cell hb2 3
  have c4 := obj_cell hb2 4
  have HK2 := Lib.hid (HK1.out.and hk)
  have HB2 := Lib.hid hb2
  clear hb2 hk
  go_wp2_with fail
  refine (rvalidCost_any a b c d g _).mono ?_
  rintro e w3 ⟨rfl, hk⟩
  have hb3 := hk.obj HB2.out (not_no _)
  have c0 := obj_cell hb3 0
  have c1 := obj_cell hb3 1
  have c2 := obj_cell hb3 2
  have c3 := obj_cell hb3 3
  have c4 := obj_cell hb3 4
  have HK3 := Lib.hid (HK2.out.and hk)
  have HB3 := Lib.hid hb3
  clear hb3 hk
  cases hco : cost a b c d g
  · have HT := Lib.hid (fun W => texts_bad hco W)
    clear hco
    go_wp2_with fail
    refine (HT.out _).mono ?_
    rintro e w4 ⟨rfl, hk⟩
    have HK4 := Lib.hid (HK3.out.and hk)
    clear hk
    go_wp2_with fail
    refine (known_any _ (HE.out.kept HK4.out)).mono ?_
    rintro e w5 ⟨rfl, hk⟩
    have HK5 := Lib.hid (HK4.out.and hk)
    clear hk
    go_wp2_with fail
    go_ret
    exact ⟨rfl, HK5.out⟩
  · have HT := Lib.hid (fun W => texts_good hco W)
    have HR := Lib.hid (fun W => rtext_any hco W)
    clear hco
    go_wp2_with fail
    go_region_held3 (fun w' => w'.cell? ⟨w.heap.size, 0, none⟩ = some (.int .i64 a) ∧ w'.cell? ⟨w.heap.size, 1, none⟩ = some (.int .i64 b) ∧ w'.cell? ⟨w.heap.size, 2, none⟩ = some (.int .i64 c) ∧ w'.cell? ⟨w.heap.size, 3, none⟩ = some (.int .i64 d) ∧ w'.cell? ⟨w.heap.size, 4, none⟩ = some (.int .i64 g)) (first | go_keep | exact ⟨c0, c1, c2, c3, c4⟩)
      (first | (go_at_call 29; refine (HR.out _).mono ?_; rintro e wz ⟨rfl, hk⟩; have c0 := hk.cell c0 (not_no _); have c1 := hk.cell c1 (not_no _); have c2 := hk.cell c2 (not_no _); have c3 := hk.cell c3 (not_no _); have c4 := hk.cell c4 (not_no _); have HK3 := Lib.hid (HK3.out.and (show Kept No w3 wz by first | exact hk | exact hk.of_drew)); clear hk) | (go_at_call 28; refine (HT.out _).mono ?_; rintro e wy ⟨rfl, hk⟩; have c0 := hk.cell c0 (not_no _); have c1 := hk.cell c1 (not_no _); have c2 := hk.cell c2 (not_no _); have c3 := hk.cell c3 (not_no _); have c4 := hk.cell c4 (not_no _); have HK3 := Lib.hid (HK3.out.and (by first | exact hk | exact hk.of_drew)); clear hk) | (go_at_call 17; refine (known_any _ ?_).mono ?_; (exact HE.out.kept HK3.out); rintro e wx ⟨rfl, hk⟩; have c0 := hk.cell c0 (not_no _); have c1 := hk.cell c1 (not_no _); have c2 := hk.cell c2 (not_no _); have c3 := hk.cell c3 (not_no _); have c4 := hk.cell c4 (not_no _); have HK3 := Lib.hid (HK3.out.and (by first | exact hk | exact hk.of_drew)); clear hk))
    go_wp2_with fail
    go_ret
    exact ⟨rfl, HK3.out⟩
set_option maxRecDepth 100000 in
set_option maxHeartbeats 4000000 in
theorem walk_texts1 (a b c d g : Int) (w : World) (hE : Errs w) : Calls Tryd.prog 7 #[.agg #[.int .i64 a, .int .i64 b, .int .i64 c, .int .i64 d, .int .i64 g], .int .i64 1] w fun e w' => e = .returned (.bool true) ∧ Kept No w w' := by
  have hs1 : ((strOf [84]).toList == ((⟨#[69, 84, 76, 83]⟩ : ByteArray).extract 1 2).toList) = true := by
    show ((strOf [84]).toList == (strOf [84]).toList) = true
    simp
  have hs2 : ((strOf [84]).toList != ((⟨#[69, 84, 76, 83]⟩ : ByteArray).extract 1 2).toList) = false := by
    show ((strOf [84]).toList != (strOf [84]).toList) = false
    simp
  obtain ⟨w1, hw1⟩ : ∃ w1, w.alloc (.cells #[.int .i64 a, .int .i64 b, .int .i64 c, .int .i64 d, .int .i64 g] 25) = w1 := ⟨_, rfl⟩
  have hb : w1.heap[w.heap.size]? = some (.cells #[.int .i64 a, .int .i64 b, .int .i64 c, .int .i64 d, .int .i64 g] 25 (0, 0)) := by rw [← hw1]; exact heap_alloc_new w _
  have HK1 := Lib.hid (show Kept No w w1 by rw [← hw1]; exact (Kept.refl No w).alloc _)
  have HB1 := Lib.hid hb
  have HE := Lib.hid hE
  clear hb hE
  go_enter Tryd.func7, Tryd.ntmps7
  go_wp2_with fail
  refine (mletter1 _).mono ?_
  rintro e w2 ⟨rfl, hk⟩
  have hb2 := hk.obj HB1.out (not_no _)
  have c0 := obj_cell hb2 0
  have c1 := obj_cell hb2 1
  have c2 := obj_cell hb2 2
  have c3 := obj_cell hb2 3
  have c4 := obj_cell hb2 4
  have HK2 := Lib.hid (HK1.out.and hk)
  have HB2 := Lib.hid hb2
  clear hb2 hk
  go_wp2_with fail
  refine (rvalidCost_any a b c d g _).mono ?_
  rintro e w3 ⟨rfl, hk⟩
  have hb3 := hk.obj HB2.out (not_no _)
  have c0 := obj_cell hb3 0
  have c1 := obj_cell hb3 1
  have c2 := obj_cell hb3 2
  have c3 := obj_cell hb3 3
  have c4 := obj_cell hb3 4
  have HK3 := Lib.hid (HK2.out.and hk)
  have HB3 := Lib.hid hb3
  clear hb3 hk
  cases hco : cost a b c d g
  · have HT := Lib.hid (fun W => texts_bad hco W)
    clear hco
    go_wp2_with fail
    refine (HT.out _).mono ?_
    rintro e w4 ⟨rfl, hk⟩
    have HK4 := Lib.hid (HK3.out.and hk)
    clear hk
    go_wp2_with fail
    refine (known_any _ (HE.out.kept HK4.out)).mono ?_
    rintro e w5 ⟨rfl, hk⟩
    have HK5 := Lib.hid (HK4.out.and hk)
    clear hk
    go_wp2_with fail
    go_ret
    exact ⟨rfl, HK5.out⟩
  · have HT := Lib.hid (fun W => texts_good hco W)
    have HR := Lib.hid (fun W => rtext_any hco W)
    clear hco
    go_wp2_with fail
    go_region_held3 (fun w' => w'.cell? ⟨w.heap.size, 0, none⟩ = some (.int .i64 a) ∧ w'.cell? ⟨w.heap.size, 1, none⟩ = some (.int .i64 b) ∧ w'.cell? ⟨w.heap.size, 2, none⟩ = some (.int .i64 c) ∧ w'.cell? ⟨w.heap.size, 3, none⟩ = some (.int .i64 d) ∧ w'.cell? ⟨w.heap.size, 4, none⟩ = some (.int .i64 g)) (first | go_keep | exact ⟨c0, c1, c2, c3, c4⟩)
      (first | (go_at_call 29; refine (HR.out _).mono ?_; rintro e wz ⟨rfl, hk⟩; have c0 := hk.cell c0 (not_no _); have c1 := hk.cell c1 (not_no _); have c2 := hk.cell c2 (not_no _); have c3 := hk.cell c3 (not_no _); have c4 := hk.cell c4 (not_no _); have HK3 := Lib.hid (HK3.out.and (show Kept No w3 wz by first | exact hk | exact hk.of_drew)); clear hk) | (go_at_call 28; refine (HT.out _).mono ?_; rintro e wy ⟨rfl, hk⟩; have c0 := hk.cell c0 (not_no _); have c1 := hk.cell c1 (not_no _); have c2 := hk.cell c2 (not_no _); have c3 := hk.cell c3 (not_no _); have c4 := hk.cell c4 (not_no _); have HK3 := Lib.hid (HK3.out.and (by first | exact hk | exact hk.of_drew)); clear hk) | (go_at_call 17; refine (known_any _ ?_).mono ?_; (exact HE.out.kept HK3.out); rintro e wx ⟨rfl, hk⟩; have c0 := hk.cell c0 (not_no _); have c1 := hk.cell c1 (not_no _); have c2 := hk.cell c2 (not_no _); have c3 := hk.cell c3 (not_no _); have c4 := hk.cell c4 (not_no _); have HK3 := Lib.hid (HK3.out.and (by first | exact hk | exact hk.of_drew)); clear hk))
    go_wp2_with fail
    go_ret
    exact ⟨rfl, HK3.out⟩
set_option maxRecDepth 100000 in
set_option maxHeartbeats 4000000 in
theorem walk_texts2 (a b c d g : Int) (w : World) (hE : Errs w) : Calls Tryd.prog 7 #[.agg #[.int .i64 a, .int .i64 b, .int .i64 c, .int .i64 d, .int .i64 g], .int .i64 2] w fun e w' => e = .returned (.bool true) ∧ Kept No w w' := by
  have hs1 : ((strOf [76]).toList == ((⟨#[69, 84, 76, 83]⟩ : ByteArray).extract 2 3).toList) = true := by
    show ((strOf [76]).toList == (strOf [76]).toList) = true
    simp
  have hs2 : ((strOf [76]).toList != ((⟨#[69, 84, 76, 83]⟩ : ByteArray).extract 2 3).toList) = false := by
    show ((strOf [76]).toList != (strOf [76]).toList) = false
    simp
  obtain ⟨w1, hw1⟩ : ∃ w1, w.alloc (.cells #[.int .i64 a, .int .i64 b, .int .i64 c, .int .i64 d, .int .i64 g] 25) = w1 := ⟨_, rfl⟩
  have hb : w1.heap[w.heap.size]? = some (.cells #[.int .i64 a, .int .i64 b, .int .i64 c, .int .i64 d, .int .i64 g] 25 (0, 0)) := by rw [← hw1]; exact heap_alloc_new w _
  have HK1 := Lib.hid (show Kept No w w1 by rw [← hw1]; exact (Kept.refl No w).alloc _)
  have HB1 := Lib.hid hb
  have HE := Lib.hid hE
  clear hb hE
  go_enter Tryd.func7, Tryd.ntmps7
  go_wp2_with fail
  refine (mletter2 _).mono ?_
  rintro e w2 ⟨rfl, hk⟩
  have hb2 := hk.obj HB1.out (not_no _)
  have c0 := obj_cell hb2 0
  have c1 := obj_cell hb2 1
  have c2 := obj_cell hb2 2
  have c3 := obj_cell hb2 3
  have c4 := obj_cell hb2 4
  have HK2 := Lib.hid (HK1.out.and hk)
  have HB2 := Lib.hid hb2
  clear hb2 hk
  go_wp2_with fail
  refine (rvalidCost_any a b c d g _).mono ?_
  rintro e w3 ⟨rfl, hk⟩
  have hb3 := hk.obj HB2.out (not_no _)
  have c0 := obj_cell hb3 0
  have c1 := obj_cell hb3 1
  have c2 := obj_cell hb3 2
  have c3 := obj_cell hb3 3
  have c4 := obj_cell hb3 4
  have HK3 := Lib.hid (HK2.out.and hk)
  have HB3 := Lib.hid hb3
  clear hb3 hk
  cases hco : cost a b c d g
  · have HT := Lib.hid (fun W => texts_bad hco W)
    clear hco
    go_wp2_with fail
    refine (HT.out _).mono ?_
    rintro e w4 ⟨rfl, hk⟩
    have HK4 := Lib.hid (HK3.out.and hk)
    clear hk
    go_wp2_with fail
    refine (known_any _ (HE.out.kept HK4.out)).mono ?_
    rintro e w5 ⟨rfl, hk⟩
    have HK5 := Lib.hid (HK4.out.and hk)
    clear hk
    go_wp2_with fail
    go_ret
    exact ⟨rfl, HK5.out⟩
  · have HT := Lib.hid (fun W => texts_good hco W)
    have HR := Lib.hid (fun W => rtext_any hco W)
    clear hco
    go_wp2_with fail
    go_region_held3 (fun w' => w'.cell? ⟨w.heap.size, 0, none⟩ = some (.int .i64 a) ∧ w'.cell? ⟨w.heap.size, 1, none⟩ = some (.int .i64 b) ∧ w'.cell? ⟨w.heap.size, 2, none⟩ = some (.int .i64 c) ∧ w'.cell? ⟨w.heap.size, 3, none⟩ = some (.int .i64 d) ∧ w'.cell? ⟨w.heap.size, 4, none⟩ = some (.int .i64 g)) (first | go_keep | exact ⟨c0, c1, c2, c3, c4⟩)
      (first | (go_at_call 29; refine (HR.out _).mono ?_; rintro e wz ⟨rfl, hk⟩; have c0 := hk.cell c0 (not_no _); have c1 := hk.cell c1 (not_no _); have c2 := hk.cell c2 (not_no _); have c3 := hk.cell c3 (not_no _); have c4 := hk.cell c4 (not_no _); have HK3 := Lib.hid (HK3.out.and (show Kept No w3 wz by first | exact hk | exact hk.of_drew)); clear hk) | (go_at_call 28; refine (HT.out _).mono ?_; rintro e wy ⟨rfl, hk⟩; have c0 := hk.cell c0 (not_no _); have c1 := hk.cell c1 (not_no _); have c2 := hk.cell c2 (not_no _); have c3 := hk.cell c3 (not_no _); have c4 := hk.cell c4 (not_no _); have HK3 := Lib.hid (HK3.out.and (by first | exact hk | exact hk.of_drew)); clear hk) | (go_at_call 17; refine (known_any _ ?_).mono ?_; (exact HE.out.kept HK3.out); rintro e wx ⟨rfl, hk⟩; have c0 := hk.cell c0 (not_no _); have c1 := hk.cell c1 (not_no _); have c2 := hk.cell c2 (not_no _); have c3 := hk.cell c3 (not_no _); have c4 := hk.cell c4 (not_no _); have HK3 := Lib.hid (HK3.out.and (by first | exact hk | exact hk.of_drew)); clear hk))
    go_wp2_with fail
    go_ret
    exact ⟨rfl, HK3.out⟩
set_option maxRecDepth 100000 in
set_option maxHeartbeats 4000000 in
theorem walk_texts3 (a b c d g : Int) (w : World) (hE : Errs w) : Calls Tryd.prog 7 #[.agg #[.int .i64 a, .int .i64 b, .int .i64 c, .int .i64 d, .int .i64 g], .int .i64 3] w fun e w' => e = .returned (.bool true) ∧ Kept No w w' := by
  have hs1 : ((strOf [83]).toList == ((⟨#[69, 84, 76, 83]⟩ : ByteArray).extract 3 4).toList) = true := by
    show ((strOf [83]).toList == (strOf [83]).toList) = true
    simp
  have hs2 : ((strOf [83]).toList != ((⟨#[69, 84, 76, 83]⟩ : ByteArray).extract 3 4).toList) = false := by
    show ((strOf [83]).toList != (strOf [83]).toList) = false
    simp
  obtain ⟨w1, hw1⟩ : ∃ w1, w.alloc (.cells #[.int .i64 a, .int .i64 b, .int .i64 c, .int .i64 d, .int .i64 g] 25) = w1 := ⟨_, rfl⟩
  have hb : w1.heap[w.heap.size]? = some (.cells #[.int .i64 a, .int .i64 b, .int .i64 c, .int .i64 d, .int .i64 g] 25 (0, 0)) := by rw [← hw1]; exact heap_alloc_new w _
  have HK1 := Lib.hid (show Kept No w w1 by rw [← hw1]; exact (Kept.refl No w).alloc _)
  have HB1 := Lib.hid hb
  have HE := Lib.hid hE
  clear hb hE
  go_enter Tryd.func7, Tryd.ntmps7
  go_wp2_with fail
  refine (mletter3 _).mono ?_
  rintro e w2 ⟨rfl, hk⟩
  have hb2 := hk.obj HB1.out (not_no _)
  have c0 := obj_cell hb2 0
  have c1 := obj_cell hb2 1
  have c2 := obj_cell hb2 2
  have c3 := obj_cell hb2 3
  have c4 := obj_cell hb2 4
  have HK2 := Lib.hid (HK1.out.and hk)
  have HB2 := Lib.hid hb2
  clear hb2 hk
  go_wp2_with fail
  refine (rvalidCost_any a b c d g _).mono ?_
  rintro e w3 ⟨rfl, hk⟩
  have hb3 := hk.obj HB2.out (not_no _)
  have c0 := obj_cell hb3 0
  have c1 := obj_cell hb3 1
  have c2 := obj_cell hb3 2
  have c3 := obj_cell hb3 3
  have c4 := obj_cell hb3 4
  have HK3 := Lib.hid (HK2.out.and hk)
  have HB3 := Lib.hid hb3
  clear hb3 hk
  cases hco : cost a b c d g
  · have HT := Lib.hid (fun W => texts_bad hco W)
    clear hco
    go_wp2_with fail
    refine (HT.out _).mono ?_
    rintro e w4 ⟨rfl, hk⟩
    have HK4 := Lib.hid (HK3.out.and hk)
    clear hk
    go_wp2_with fail
    refine (known_any _ (HE.out.kept HK4.out)).mono ?_
    rintro e w5 ⟨rfl, hk⟩
    have HK5 := Lib.hid (HK4.out.and hk)
    clear hk
    go_wp2_with fail
    go_ret
    exact ⟨rfl, HK5.out⟩
  · have HT := Lib.hid (fun W => texts_good hco W)
    have HR := Lib.hid (fun W => rtext_any hco W)
    clear hco
    go_wp2_with fail
    go_region_held3 (fun w' => w'.cell? ⟨w.heap.size, 0, none⟩ = some (.int .i64 a) ∧ w'.cell? ⟨w.heap.size, 1, none⟩ = some (.int .i64 b) ∧ w'.cell? ⟨w.heap.size, 2, none⟩ = some (.int .i64 c) ∧ w'.cell? ⟨w.heap.size, 3, none⟩ = some (.int .i64 d) ∧ w'.cell? ⟨w.heap.size, 4, none⟩ = some (.int .i64 g)) (first | go_keep | exact ⟨c0, c1, c2, c3, c4⟩)
      (first | (go_at_call 29; refine (HR.out _).mono ?_; rintro e wz ⟨rfl, hk⟩; have c0 := hk.cell c0 (not_no _); have c1 := hk.cell c1 (not_no _); have c2 := hk.cell c2 (not_no _); have c3 := hk.cell c3 (not_no _); have c4 := hk.cell c4 (not_no _); have HK3 := Lib.hid (HK3.out.and (show Kept No w3 wz by first | exact hk | exact hk.of_drew)); clear hk) | (go_at_call 28; refine (HT.out _).mono ?_; rintro e wy ⟨rfl, hk⟩; have c0 := hk.cell c0 (not_no _); have c1 := hk.cell c1 (not_no _); have c2 := hk.cell c2 (not_no _); have c3 := hk.cell c3 (not_no _); have c4 := hk.cell c4 (not_no _); have HK3 := Lib.hid (HK3.out.and (by first | exact hk | exact hk.of_drew)); clear hk) | (go_at_call 17; refine (known_any _ ?_).mono ?_; (exact HE.out.kept HK3.out); rintro e wx ⟨rfl, hk⟩; have c0 := hk.cell c0 (not_no _); have c1 := hk.cell c1 (not_no _); have c2 := hk.cell c2 (not_no _); have c3 := hk.cell c3 (not_no _); have c4 := hk.cell c4 (not_no _); have HK3 := Lib.hid (HK3.out.and (by first | exact hk | exact hk.of_drew)); clear hk))
    go_wp2_with fail
    go_ret
    exact ⟨rfl, HK3.out⟩
set_option maxRecDepth 100000 in
set_option maxHeartbeats 4000000 in
theorem walk_textsB (a b c d g k : Int) (w : World) (hE : Errs w) (hk : k < 0 ∨ (0 ≤ k ∧ 3 < k)) : Calls Tryd.prog 7 #[.agg #[.int .i64 a, .int .i64 b, .int .i64 c, .int .i64 d, .int .i64 g], .int .i64 k] w fun e w' => e = .returned (.bool true) ∧ Kept No w w' := by
  have hcol : col k = false := by
    unfold col
    rw [Bool.and_eq_false_iff, decide_eq_false_iff_not, decide_eq_false_iff_not]
    omega
  rcases hk with hk1 | ⟨hk0, hk1⟩
  · obtain ⟨w1, hw1⟩ : ∃ w1, w.alloc (.cells #[.int .i64 a, .int .i64 b, .int .i64 c, .int .i64 d, .int .i64 g] 25) = w1 := ⟨_, rfl⟩
    have hb : w1.heap[w.heap.size]? = some (.cells #[.int .i64 a, .int .i64 b, .int .i64 c, .int .i64 d, .int .i64 g] 25 (0, 0)) := by rw [← hw1]; exact heap_alloc_new w _
    have HK1 := Lib.hid (show Kept No w w1 by rw [← hw1]; exact (Kept.refl No w).alloc _)
    have HB1 := Lib.hid hb
    have HE := Lib.hid hE
    clear hb hE
    have HCOL := Lib.hid hcol
    clear hcol
    go_enter Tryd.func7, Tryd.ntmps7
    go_wp2_with fail
    refine (mletter_bad k _ HCOL.out).mono ?_
    rintro e w2 ⟨rfl, hk⟩
    have hb2 := hk.obj HB1.out (not_no _)
    have c0 := obj_cell hb2 0
    have c1 := obj_cell hb2 1
    have c2 := obj_cell hb2 2
    have c3 := obj_cell hb2 3
    have c4 := obj_cell hb2 4
    have HK2 := Lib.hid (HK1.out.and hk)
    have HB2 := Lib.hid hb2
    clear hb2 hk
    go_wp2_with fail
    refine (rvalidCost_any a b c d g _).mono ?_
    rintro e w3 ⟨rfl, hk⟩
    have hb3 := hk.obj HB2.out (not_no _)
    have c0 := obj_cell hb3 0
    have c1 := obj_cell hb3 1
    have c2 := obj_cell hb3 2
    have c3 := obj_cell hb3 3
    have c4 := obj_cell hb3 4
    have HK3 := Lib.hid (HK2.out.and hk)
    have HB3 := Lib.hid hb3
    clear hb3 hk
    cases hco : cost a b c d g
    · have HT := Lib.hid (fun W => texts_bad hco W)
      clear hco
      go_wp2_with fail
      refine (HT.out _).mono ?_
      rintro e w4 ⟨rfl, hk⟩
      have HK4 := Lib.hid (HK3.out.and hk)
      clear hk
      go_wp2_with fail
      refine (known_any _ (HE.out.kept HK4.out)).mono ?_
      rintro e w5 ⟨rfl, hk⟩
      have HK5 := Lib.hid (HK4.out.and hk)
      clear hk
      go_wp2_with fail
      go_ret
      exact ⟨rfl, HK5.out⟩
    · have HT := Lib.hid (fun W => texts_good hco W)
      have HR := Lib.hid (fun W => rtext_any hco W)
      clear hco
      go_wp2_with fail
      go_region_held3 (fun w' => w'.cell? ⟨w.heap.size, 0, none⟩ = some (.int .i64 a) ∧ w'.cell? ⟨w.heap.size, 1, none⟩ = some (.int .i64 b) ∧ w'.cell? ⟨w.heap.size, 2, none⟩ = some (.int .i64 c) ∧ w'.cell? ⟨w.heap.size, 3, none⟩ = some (.int .i64 d) ∧ w'.cell? ⟨w.heap.size, 4, none⟩ = some (.int .i64 g)) (first | go_keep | exact ⟨c0, c1, c2, c3, c4⟩)
        (first | (go_at_call 29; refine (HR.out _).mono ?_; rintro e wz ⟨rfl, hk⟩; have c0 := hk.cell c0 (not_no _); have c1 := hk.cell c1 (not_no _); have c2 := hk.cell c2 (not_no _); have c3 := hk.cell c3 (not_no _); have c4 := hk.cell c4 (not_no _); have HK3 := Lib.hid (HK3.out.and (show Kept No w3 wz by first | exact hk | exact hk.of_drew)); clear hk) | (go_at_call 28; refine (HT.out _).mono ?_; rintro e wy ⟨rfl, hk⟩; have c0 := hk.cell c0 (not_no _); have c1 := hk.cell c1 (not_no _); have c2 := hk.cell c2 (not_no _); have c3 := hk.cell c3 (not_no _); have c4 := hk.cell c4 (not_no _); have HK3 := Lib.hid (HK3.out.and (by first | exact hk | exact hk.of_drew)); clear hk) | (go_at_call 17; refine (known_any _ ?_).mono ?_; (exact HE.out.kept HK3.out); rintro e wx ⟨rfl, hk⟩; have c0 := hk.cell c0 (not_no _); have c1 := hk.cell c1 (not_no _); have c2 := hk.cell c2 (not_no _); have c3 := hk.cell c3 (not_no _); have c4 := hk.cell c4 (not_no _); have HK3 := Lib.hid (HK3.out.and (by first | exact hk | exact hk.of_drew)); clear hk))
      go_wp2_with fail
      go_ret
      exact ⟨rfl, HK3.out⟩
  · obtain ⟨w1, hw1⟩ : ∃ w1, w.alloc (.cells #[.int .i64 a, .int .i64 b, .int .i64 c, .int .i64 d, .int .i64 g] 25) = w1 := ⟨_, rfl⟩
    have hb : w1.heap[w.heap.size]? = some (.cells #[.int .i64 a, .int .i64 b, .int .i64 c, .int .i64 d, .int .i64 g] 25 (0, 0)) := by rw [← hw1]; exact heap_alloc_new w _
    have HK1 := Lib.hid (show Kept No w w1 by rw [← hw1]; exact (Kept.refl No w).alloc _)
    have HB1 := Lib.hid hb
    have HE := Lib.hid hE
    clear hb hE
    have HCOL := Lib.hid hcol
    clear hcol
    go_enter Tryd.func7, Tryd.ntmps7
    go_wp2_with fail
    refine (mletter_bad k _ HCOL.out).mono ?_
    rintro e w2 ⟨rfl, hk⟩
    have hb2 := hk.obj HB1.out (not_no _)
    have c0 := obj_cell hb2 0
    have c1 := obj_cell hb2 1
    have c2 := obj_cell hb2 2
    have c3 := obj_cell hb2 3
    have c4 := obj_cell hb2 4
    have HK2 := Lib.hid (HK1.out.and hk)
    have HB2 := Lib.hid hb2
    clear hb2 hk
    go_wp2_with fail
    refine (rvalidCost_any a b c d g _).mono ?_
    rintro e w3 ⟨rfl, hk⟩
    have hb3 := hk.obj HB2.out (not_no _)
    have c0 := obj_cell hb3 0
    have c1 := obj_cell hb3 1
    have c2 := obj_cell hb3 2
    have c3 := obj_cell hb3 3
    have c4 := obj_cell hb3 4
    have HK3 := Lib.hid (HK2.out.and hk)
    have HB3 := Lib.hid hb3
    clear hb3 hk
    cases hco : cost a b c d g
    · have HT := Lib.hid (fun W => texts_bad hco W)
      clear hco
      go_wp2_with fail
      refine (HT.out _).mono ?_
      rintro e w4 ⟨rfl, hk⟩
      have HK4 := Lib.hid (HK3.out.and hk)
      clear hk
      go_wp2_with fail
      refine (known_any _ (HE.out.kept HK4.out)).mono ?_
      rintro e w5 ⟨rfl, hk⟩
      have HK5 := Lib.hid (HK4.out.and hk)
      clear hk
      go_wp2_with fail
      go_ret
      exact ⟨rfl, HK5.out⟩
    · have HT := Lib.hid (fun W => texts_good hco W)
      have HR := Lib.hid (fun W => rtext_any hco W)
      clear hco
      go_wp2_with fail
      go_region_held3 (fun w' => w'.cell? ⟨w.heap.size, 0, none⟩ = some (.int .i64 a) ∧ w'.cell? ⟨w.heap.size, 1, none⟩ = some (.int .i64 b) ∧ w'.cell? ⟨w.heap.size, 2, none⟩ = some (.int .i64 c) ∧ w'.cell? ⟨w.heap.size, 3, none⟩ = some (.int .i64 d) ∧ w'.cell? ⟨w.heap.size, 4, none⟩ = some (.int .i64 g)) (first | go_keep | exact ⟨c0, c1, c2, c3, c4⟩)
        (first | (go_at_call 29; refine (HR.out _).mono ?_; rintro e wz ⟨rfl, hk⟩; have c0 := hk.cell c0 (not_no _); have c1 := hk.cell c1 (not_no _); have c2 := hk.cell c2 (not_no _); have c3 := hk.cell c3 (not_no _); have c4 := hk.cell c4 (not_no _); have HK3 := Lib.hid (HK3.out.and (show Kept No w3 wz by first | exact hk | exact hk.of_drew)); clear hk) | (go_at_call 28; refine (HT.out _).mono ?_; rintro e wy ⟨rfl, hk⟩; have c0 := hk.cell c0 (not_no _); have c1 := hk.cell c1 (not_no _); have c2 := hk.cell c2 (not_no _); have c3 := hk.cell c3 (not_no _); have c4 := hk.cell c4 (not_no _); have HK3 := Lib.hid (HK3.out.and (by first | exact hk | exact hk.of_drew)); clear hk) | (go_at_call 17; refine (known_any _ ?_).mono ?_; (exact HE.out.kept HK3.out); rintro e wx ⟨rfl, hk⟩; have c0 := hk.cell c0 (not_no _); have c1 := hk.cell c1 (not_no _); have c2 := hk.cell c2 (not_no _); have c3 := hk.cell c3 (not_no _); have c4 := hk.cell c4 (not_no _); have HK3 := Lib.hid (HK3.out.and (by first | exact hk | exact hk.of_drew)); clear hk))
      go_wp2_with fail
      go_ret
      exact ⟨rfl, HK3.out⟩
theorem walk_texts (a b c d g k : Int) (w : World) (hE : Errs w) : Calls Tryd.prog 7 #[.agg #[.int .i64 a, .int .i64 b, .int .i64 c, .int .i64 d, .int .i64 g], .int .i64 k] w fun e w' => e = .returned (.bool true) ∧ Kept No w w' := by
  by_cases h : k < 0 ∨ (0 ≤ k ∧ 3 < k)
  · exact walk_textsB a b c d g k w hE h
  · have h2 : k = 0 ∨ k = 1 ∨ k = 2 ∨ k = 3 := by omega
    rcases h2 with rfl | rfl | rfl | rfl
    · exact walk_texts0 a b c d g w hE
    · exact walk_texts1 a b c d g w hE
    · exact walk_texts2 a b c d g w hE
    · exact walk_texts3 a b c d g w hE
end Go.Proofs.YtgnnhigheljnkacDoor
