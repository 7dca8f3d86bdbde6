/-
  Pool: Card, Cards.
-/
import Derived.Test.YtclgoilfclmibaaGreatDoorPl
set_option linter.unusedVariables false
set_option linter.unusedSimpArgs false
namespace Go.Proofs.YtclgoilfclmibaaGreatDoor
open Go.RowKit Go.Zn
attribute [local go_sem] Oper.semAt_some

theorem sm_of_valid {c : Crd} (h : cvalid c = true) : Sm c := by
  have hin := cvalid_in h
  exact ⟨by have := hin.name; omega, by have := (allE_out hin.effs).1; omega, by have := hin.many; omega, fun t ht => by have := (allE_out (hin.trgs t ht).2.2).1; omega, by have := hin.keys; omega, by have := hin.keys; omega⟩
def zCells : Array Value := #[.string { data := #[] }, .int .i64 0, .int .i64 0, .int .i64 0, .int .i64 0, .int .i64 0, .int .i64 0, .int .i64 0, .int .i64 0, .int .i64 0, .int .i64 0, .slice none 0 0, .slice none 0 0, .int .i64 0]
theorem zCells_all : zCells.all (·.oneCell') = true := by kernel_rfl
theorem results36 {W : World} {tmps : Array Value} {g : Nat} {cs : Array Value} {u : Value} (ht : tmps.getD 4 undef = .pointer (some ⟨g, 0, none⟩)) (h5 : tmps.getD 5 undef = u) (hh : W.heap[g]? = some (.cells cs 46 (0, 0))) (hs : cs.size = 14) :
    (results Tryz.f43 tmps).run Tryz.prog W = .ok (.tuple #[.agg cs, u]) W := by
  have e := run_loadVar_row (P := Tryz.prog) W g 46 46 cs (0, 0) _ hh Tryz.underlying46 rfl (by rw [hs]; kernel_rfl)
  rw [results_cell_tmp (p := 4) (u := 5) (ty := 46) rfl, ht, h5]
  simp [asAddr, e, Result.andThen]
def CardNo (er : Int) (w : World) (e : Ending) (w' : World) : Prop := e = .returned (.tuple #[.agg zCells, .int .i64 er]) ∧ Kept No w w'
def CardOk (c : Crd) (w : World) (e : Ending) (w' : World) : Prop := ∃ ev tv, e = .returned (.tuple #[crdV c ev tv, .int .i64 0]) ∧ OwnC w' w.heap.size c ev tv ∧ Kept No w w'
set_option maxRecDepth 100000 in
set_option maxHeartbeats 1600000 in
theorem card_zero {w : World} {p : Value} (h : PZero w p) (i : Int) : Calls Tryz.prog 43 #[p, .int .i64 i] w (CardNo 1 w) := by
  obtain ⟨w1, hw1⟩ : ∃ w1, w.alloc (.cells zCells 46) = w1 := ⟨_, rfl⟩
  have HZ := Lib.hid (zero_yes (h.no (by rw [← hw1]; exact (Kept.refl No w).alloc _) : PZero w1 p))
  have HO := Lib.hid (show w1.heap[w.heap.size]? = some (.cells zCells 46 (0, 0)) by rw [← hw1]; exact heap_alloc_new w _)
  have HK := Lib.hid (show Kept No w w1 by rw [← hw1]; exact (Kept.refl No w).alloc _)
  unfold zCells at hw1
  clear h
  go_enter Tryz.func43, Tryz.ntmps43
  go_wp2_with fail
  refine HZ.out.mono ?_
  rintro e w' ⟨rfl, rfl⟩
  go_wp2_with (refine wpList_store_row rfl 46 _ _ rfl w.heap.size zCells rfl rfl 46 _ HO.out (by kernel_rfl) rfl zCells_all ?_)
  refine bodyPost_ret (results36 rfl rfl (setRow_heap w1 _ _ _ _ _ HO.out) rfl) rfl ⟨rfl, HK.out.setRow (fun hh => absurd hh (Nat.lt_irrefl _)) _⟩
set_option maxRecDepth 100000 in
set_option maxHeartbeats 1600000 in
theorem card_out {w : World} {B : Nat → Prop} {p : Value} {l : List Crd} (h : PoolAt w B p l) {i : Int} (hi : i < 0 ∨ (l.length : Int) ≤ i) : Calls Tryz.prog 43 #[p, .int .i64 i] w (CardNo 3 w) := by
  obtain ⟨g, m, v, rfl, h⟩ := h
  obtain ⟨ad, cap, rfl⟩ := h.cards.slice
  obtain ⟨w1, hw1⟩ : ∃ w1, w.alloc (.cells zCells 46) = w1 := ⟨_, rfl⟩
  have hk1 : Kept No w w1 := by rw [← hw1]; exact (Kept.refl No w).alloc _
  have HZ := Lib.hid (zero_no (h.no hk1))
  have c0 := obj_cell (h.no hk1).obj 0
  have HO := Lib.hid (show w1.heap[w.heap.size]? = some (.cells zCells 46 (0, 0)) by rw [← hw1]; exact heap_alloc_new w _)
  have HK := Lib.hid hk1
  unfold zCells at hw1
  obtain ⟨n, hn⟩ : ∃ n, l.length = n := ⟨_, rfl⟩
  rw [hn] at hi c0
  clear h hk1 hn
  by_cases h0 : i < 0
  · have d1 : decide (i < 0) = true := decide_eq_true h0
    clear hi h0
    go_enter Tryz.func43, Tryz.ntmps43
    go_wp2_with fail
    refine HZ.out.mono ?_
    rintro e w' ⟨rfl, rfl⟩
    go_wp2_with (refine wpList_store_row rfl 46 _ _ rfl w.heap.size zCells rfl rfl 46 _ HO.out (by kernel_rfl) rfl zCells_all ?_)
    refine bodyPost_ret (results36 rfl rfl (setRow_heap w1 _ _ _ _ _ HO.out) rfl) rfl ⟨rfl, HK.out.setRow (fun hh => absurd hh (Nat.lt_irrefl _)) _⟩
  · have d1 : decide (i < 0) = false := decide_eq_false h0
    have d2 : decide ((n : Int) ≤ i) = true := decide_eq_true (by omega)
    clear hi h0
    go_enter Tryz.func43, Tryz.ntmps43
    go_wp2_with fail
    refine HZ.out.mono ?_
    rintro e w' ⟨rfl, rfl⟩
    go_wp2_with (refine wpList_store_row rfl 46 _ _ rfl w.heap.size zCells rfl rfl 46 _ HO.out (by kernel_rfl) rfl zCells_all ?_)
    refine bodyPost_ret (results36 rfl rfl (setRow_heap w1 _ _ _ _ _ HO.out) rfl) rfl ⟨rfl, HK.out.setRow (fun hh => absurd hh (Nat.lt_irrefl _)) _⟩
set_option maxRecDepth 100000 in
set_option maxHeartbeats 1600000 in
theorem card_ok {w : World} {B : Nat → Prop} {p : Value} {l : List Crd} (h : PoolAt w B p l) {i : Nat} {c : Crd} (hi : l[i]? = some c) (hc : Sm c) : Calls Tryz.prog 43 #[p, .int .i64 (i : Nat)] w (CardOk c w) := by
  obtain ⟨g, m, v, rfl, h⟩ := h
  have hil := (List.getElem?_eq_some_iff.1 hi).1
  obtain ⟨w1, hw1⟩ : ∃ w1, w.alloc (.cells zCells 46) = w1 := ⟨_, rfl⟩
  have hk1 : Kept No w w1 := by rw [← hw1]; exact (Kept.refl No w).alloc _
  have h1 := h.no hk1
  obtain ⟨b, off, cap, ev, tv, rfl, hcap, hrg, hca⟩ := h1.cards.at hi
  have HZ := Lib.hid (zero_no h1)
  have c0 := obj_cell h1.obj 0
  have HO := Lib.hid (show w1.heap[w.heap.size]? = some (.cells zCells 46 (0, 0)) by rw [← hw1]; exact heap_alloc_new w _)
  have HK := Lib.hid hk1
  have HRG := Lib.hid hrg
  have HCP := Lib.hid (copy_any hc hca)
  have HSZ := Lib.hid (show w.heap.size ≤ w1.heap.size from hk1.size)
  unfold zCells at hw1
  obtain ⟨n, hn⟩ : ∃ n, l.length = n := ⟨_, rfl⟩
  rw [hn] at c0 hil
  have d1 : decide ((i : Int) < 0) = false := decide_eq_false (by omega)
  have d2 : decide (n ≤ i) = false := decide_eq_false (by omega)
  have hi0 : (0 : Int) ≤ (i : Int) := by omega
  have hin : (i : Int) < (n : Int) := by omega
  clear h h1 hk1 hn hrg hca hi hcap
  go_enter Tryz.func43, Tryz.ntmps43
  go_wp2_with fail
  refine HZ.out.mono ?_
  rintro e w' ⟨rfl, rfl⟩
  go_wp2_with (with_reducible refine wpList_load_mid rfl 46 _ rfl b (off + i * 14) rfl (crdCs c ev tv) _ HRG.out Tryz.underlying46 rfl (by kernel_rfl) ?_)
  refine HCP.out.mono ?_
  rintro e w2 ⟨ev2, tv2, rfl, hown, hk⟩
  obtain ⟨ade, cape, rfl⟩ := owned_slice hown.effs
  obtain ⟨cst, hrowt, htct⟩ := hown.trgs
  obtain ⟨adt, capt, rfl⟩ := owned_slice hrowt
  have HO2 := Lib.hid (hk.obj HO.out (not_no _))
  have HK2 := Lib.hid (HK.out.and hk)
  have HOW := Lib.hid hown
  have HALL := Lib.hid (all_oneCell_toArray (crd_one c (ev := .slice ade c.effs.length cape) (tv := .slice adt c.trgs.length capt) rfl rfl))
  clear hown hrowt htct hk
  go_wp2_with (refine wpList_store_row rfl 46 _ _ rfl w.heap.size (crdCs c (.slice ade c.effs.length cape) (.slice adt c.trgs.length capt)).toArray rfl rfl 46 _ HO2.out (by kernel_rfl) rfl HALL.out ?_)
  have hkS : Kept (fun k => k = w.heap.size) w2 (w2.setRow w.heap.size (crdCs c (.slice ade c.effs.length cape) (.slice adt c.trgs.length capt)).toArray) := (Kept.refl (fun k => k = w.heap.size) w2).setRow (fun _ => rfl) _
  refine bodyPost_ret (results36 rfl rfl (setRow_heap w2 _ _ _ _ _ HO2.out) rfl) rfl ⟨.slice ade c.effs.length cape, .slice adt c.trgs.length capt, rfl, (HOW.out.kept hkS (.of_obj HO2.out (by decide)) (.of_obj HO2.out (by decide))).mono HSZ.out, HK2.out.setRow (fun hh => absurd hh (Nat.lt_irrefl _)) _⟩
end Go.Proofs.YtclgoilfclmibaaGreatDoor
