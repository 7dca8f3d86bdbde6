/-
  Ident: New, Copy, and the list of the ids that All goes over.
-/
import Derived.Test.YtkdienebinnopaaDoorWalkC
import Derived.Deep.RegionWith
import Derived.Deep.OwnRows
namespace Go.Proofs.YtkdienebinnopaaDoor
open Go.RowKit Go.Zn Go.Deep

def NewPost (most : Nat) (w : World) (e : Ending) (w' : World) : Prop :=
  ∃ b tb, e = .returned (.tuple #[.pointer (some ⟨b, 0, none⟩), .int .i64 0]) ∧ Ids w' b tb most (fun _ => false) ∧ w.heap.size ≤ tb ∧ tb < b ∧ Kept No w w'
theorem new_bad (n : Int) (w : World) (hn : n < 1 ∨ 4096 < n) : Calls Tryd.prog 9 #[.int .i64 n] w fun e w' => e = .returned (.tuple #[.pointer none, .int .i64 2]) ∧ w = w' := by
  by_cases h : n < 1
  · go_enter Tryd.func9, Tryd.ntmps9
    go_wp2
    go_ret2
    exact ⟨rfl, rfl⟩
  · have h2 : 4096 < n := by omega
    go_enter Tryd.func9, Tryd.ntmps9
    go_wp2
    go_ret2
    exact ⟨rfl, rfl⟩
theorem ei52 : SliceOf Tryd.prog 52 58 1 8 (.int .u64 0) := ⟨Tryd.underlying52, info_parts (by kernel_rfl), rfl, by decide, by decide⟩
set_option maxHeartbeats 800000 in
theorem new_ok (most : Nat) (w : World) (h1 : 1 ≤ most) (h2 : most ≤ 4096) : Calls Tryd.prog 9 #[.int .i64 most] w (NewPost most w) := by
  have hb1 : (1 : Int) ≤ (most : Int) := by omega
  have hb2 : (most : Int) ≤ 4096 := by omega
  obtain ⟨nw, hnw⟩ : ∃ nw, nwo most = nw := ⟨_, rfl⟩
  have hq : ((most : Int) + 64 - 1) / 64 = (nw : Nat) := by rw [← hnw]; unfold nwo; omega
  have hnw2 : nw ≤ 64 := by rw [← hnw]; unfold nwo; omega
  have hmk := run_make_row' (P := Tryd.prog) 52 58 (.int .u64 0) 8 Tryd.underlying52 (by kernel_rfl) rfl .i64 .i64 nw (by omega) (by omega)
  have HNW := Lib.hid hnw
  clear hnw
  go_enter Tryd.func9, Tryd.ntmps9
  go_wp2_with fail
  go_ret2
  have hnw := HNW.out
  obtain ⟨w1, hw1⟩ : ∃ w1, w.alloc (.cells (madeCells #[.int .u64 0] nw) 58) = w1 := ⟨_, rfl⟩
  have hh : w1.heap[w.heap.size]? = some (.cells (madeCells #[.int .u64 0] nw) 58 (0, 0)) := by rw [← hw1]; exact heap_alloc_new w _
  have hs1 : w1.heap.size = w.heap.size + 1 := by rw [← hw1]; simp
  have hk1 : Kept No w w1 := by rw [← hw1]; exact (Kept.refl No w).alloc _
  show NewPost most w _ ((w.alloc (.cells (madeCells #[.int .u64 0] nw) 58)).alloc _)
  rw [hw1]
  refine ⟨w1.heap.size, w.heap.size, by rw [hs1]; rfl, ⟨h1, h2, by omega, ⟨nw, by omega, ?_⟩, ⟨_, obj_alloc hh _, fun i hi => ?_⟩, fun id h => by cases h⟩, Nat.le_refl _, by omega, hk1.alloc _⟩
  · rw [hnw]; exact heap_alloc_new w1 _
  · rw [wd_none, ← Array.getElem?_toList, toList_madeCells_one, List.getElem?_replicate, if_pos (by omega)]
    rfl
set_option maxHeartbeats 800000 in
theorem clone_any (w : World) (B : Nat → Prop) (a : Addr) (n cap : Nat) (xs : List Value) (hx : Rd w B 1 (.slice (some a) n cap) n xs) (h1 : ∀ u ∈ xs, u.oneCell' = true) (hn : n ≤ 1000) :
    Calls Tryd.prog 34 #[.slice (some a) n cap] w fun e w' => ∃ v, e = .returned v ∧ w'.ownsRow w.heap.size 58 1 v n xs ∧ Kept No w w' := by
  have he := fun w a n c => Lib.run_eql_slice_nil (P := Tryd.prog) w 52 58 a n c 0 0 Tryd.underlying52
  have hown0 := World.ownsRow_made (base := w.heap.size) (e := 58) (size := 1) w #[] 0 (Nat.le_refl _) (by simp [maxLen]) (by simp)
  have hx2 := hx.alloc (.cells #[] 58)
  have hb : (0 + n) * 8 ≤ 140737488355328 := by omega
  have hbs : w.heap.size ≤ (w.alloc (.cells #[] 58)).heap.size := by simp
  go_enter Tryd.func34, Tryd.ntmps34
  go_wp2_with (at_builtin; refine wpList_append_rd rfl rfl rfl rfl ei52 hown0 hx2 h1 hb hbs ?_; intro v1 w1 hown hg _)
  go_ret
  rw [Nat.zero_add, List.nil_append] at hown
  exact ⟨v1, rfl, hown, (((Kept.refl No w).alloc _).grown hg (fun k e h => by cases e; exact absurd h (Nat.lt_irrefl _)))⟩
theorem copy_zero {w : World} {p : Value} (hz : Calls Tryd.prog 24 #[p] w fun e w' => e = .returned (.bool true) ∧ w = w') :
    Calls Tryd.prog 23 #[p] w fun e w' => e = .returned (.pointer none) ∧ w = w' := by
  have HZ := Lib.hid hz
  clear hz
  go_enter Tryd.func23, Tryd.ntmps23
  go_wp2_with fail
  refine HZ.out.mono ?_
  rintro e w' ⟨rfl, rfl⟩
  go_wp2_with fail
  go_ret
  exact ⟨rfl, rfl⟩
def CopyPost (b tb most : Nat) (t : Nat → Bool) (w : World) (e : Ending) (w' : World) : Prop :=
  ∃ b' tb', e = .returned (.pointer (some ⟨b', 0, none⟩)) ∧ Ids w' b' tb' most t ∧ w.heap.size ≤ b' ∧ w.heap.size ≤ tb' ∧ Kept No w w'
def wcs (t : Nat → Bool) (n : Nat) : List Value := (List.range n).map fun i => Value.int .u64 (wd t i : Nat)
theorem Ids.rd {w : World} {b tb most : Nat} {t : Nat → Bool} (h : Ids w b tb most t) (c : Nat) (hc : nwo most ≤ c) : Rd w (fun _ => True) 1 (.slice (some ⟨tb, 0, none⟩) (nwo most) c) (nwo most) (wcs t (nwo most)) := by
  have hm := h.m2
  refine ⟨by simp [wcs], by unfold maxLen nwo; omega, .inr ⟨tb, 0, c, rfl, hc, fun _ => trivial, fun j u hj => ?_⟩⟩
  have hlt : j < nwo most := by have := (List.getElem?_eq_some_iff.1 hj).1; simpa [wcs] using this
  rw [Nat.zero_add, h.word hlt]
  simp [wcs, hlt] at hj
  rw [hj]
theorem copy_close {w w2 : World} {b tb most nw cap2 : Nat} {ad2 : Option Addr} {t : Nat → Bool} (h : Ids w b tb most t) (hnw : nwo most = nw) (hown : w2.ownsRow w.heap.size 58 1 (.slice ad2 nw cap2) nw (wcs t nw)) (hk : Kept No w w2) :
    CopyPost b tb most t w (.returned (.pointer (some ⟨w2.heap.size, 0, none⟩))) (w2.alloc (.cells #[.int .i64 (most : Nat), .slice ad2 nw cap2] 54)) := by
  obtain ⟨q1, q2⟩ := hown
  have hm1 := h.m1
  have hn1 : 1 ≤ nw := by rw [← hnw]; unfold nwo; omega
  rcases q2 with ⟨q2, q3⟩ | ⟨g, cap, cur, hv, hg, hh, hnc, hcm, hcs, hx⟩
  · omega
  · cases hv
    have hlt := obj_lt hh
    have hsz := hk.size
    refine ⟨w2.heap.size, g, rfl, ⟨h.m1, h.m2, by omega, ⟨cap2, by omega, by rw [hnw]; exact heap_alloc_new w2 _⟩, ⟨cur, obj_alloc hh _, fun i hi => ?_⟩, h.only⟩, hsz, hg, hk.alloc _⟩
    rw [hnw] at hi
    have e2 : (List.take (nw * 1) cur.toList)[i]? = some (Value.int .u64 (wd t i : Nat)) := by
      rw [hx]; simp [wcs, hi]
    rw [List.getElem?_take, if_pos (by omega), Array.getElem?_toList] at e2
    exact e2
set_option maxRecDepth 100000 in
set_option maxHeartbeats 1600000 in
theorem copy_ok {w : World} {b tb most : Nat} {t : Nat → Bool} (h : Ids w b tb most t) : Calls Tryd.prog 23 #[.pointer (some ⟨b, 0, none⟩)] w (CopyPost b tb most t w) := by
  obtain ⟨c, hc, hob⟩ := h.obj
  have c0 : w.cell? ⟨b, 0, none⟩ = some (.int .i64 (most : Nat)) := obj_cell hob 0
  have c1 : w.cell? ⟨b, 1, none⟩ = some (.slice (some ⟨tb, 0, none⟩) (nwo most) c) := obj_cell hob 1
  have hrd := h.rd c hc
  have hm2 := h.m2
  have hn64 : nwo most ≤ 1000 := by unfold nwo; omega
  have hnw' : nwo most = nwo most := rfl
  obtain ⟨nw, hnw⟩ : ∃ nw, nwo most = nw := ⟨_, rfl⟩
  rw [hnw] at c1 hrd hn64 hc
  have HRD := Lib.hid hrd
  have HNW := Lib.hid hnw
  have H := Lib.hid h
  have HO := Lib.hid hob
  have H64 := Lib.hid hn64
  clear hrd hnw h hob hn64 hnw'
  go_enter Tryd.func23, Tryd.ntmps23
  go_wp2_with fail
  refine (zero_no H.out).mono ?_
  rintro e w' ⟨rfl, rfl⟩
  go_wp2_with fail
  go_region_with (go_at_call 34; refine (clone_any _ (fun _ => True) ⟨tb, 0, none⟩ nw c (wcs t nw) (by exact HRD.out) (fun u hu => by simp [wcs] at hu; obtain ⟨i, _, rfl⟩ := hu; rfl) H64.out).mono ?_; rintro e w2 ⟨v2, rfl, hown, hk⟩; obtain ⟨ad2, cap2, rfl⟩ := owned_slice hown; have e0 := (show Kept No w w2 from by first | exact hk | exact hk.of_drew).cell c0 (not_no _); have HOW := Lib.hid hown; have HK := Lib.hid (show Kept No w w2 from by first | exact hk | exact hk.of_drew); clear hown hk)
  all_goals
    go_wp2_with fail
    simp only [Act.put]
    go_ret
    exact copy_close H.out HNW.out HOW.out HK.out
end Go.Proofs.YtkdienebinnopaaDoor
