/-
  IdentIterates: the walk.
-/
import Derived.Test.YtkdienebinnopaaDoorWalkR
namespace Go.Proofs.YtkdienebinnopaaDoor
open Go.RowKit Go.Zn Go.Shelf
attribute [local go_sem] Oper.semAt_some

/-- the boxes at the start: most, many, the result -/
structure B3 (w : World) (B : Nat) (a m : Int) (r : Bool) : Prop where
  h0 : w.heap[B]? = some (.cells #[.int .i64 a] 3 (0, 0))
  h1 : w.heap[B + 1]? = some (.cells #[.int .i64 m] 3 (0, 0))
  h2 : w.heap[B + 2]? = some (.cells #[.bool r] 4 (0, 0))
theorem B3.kept {S : Nat → Prop} {w w' : World} {B : Nat} {a m : Int} {r : Bool} (h : B3 w B a m r) (hk : Kept S w w') (hS : ¬ S B ∧ ¬ S (B + 1) ∧ ¬ S (B + 2)) : B3 w' B a m r := ⟨hk.obj h.h0 hS.1, hk.obj h.h1 hS.2.1, hk.obj h.h2 hS.2.2⟩
theorem B3.set {w : World} {B : Nat} {a m : Int} {r : Bool} (h : B3 w B a m r) (b : Bool) : B3 (w.setCell ⟨B + 2, 0, none⟩ (.bool b)) B a m b :=
  ⟨obj_setCell h.h0 _ (by simp), obj_setCell h.h1 _ (by simp), obj_store h.h2 0 _⟩
theorem b3_new (w : World) (a m : Int) : B3 (((w.alloc (.cells #[.int .i64 a] 3)).alloc (.cells #[.int .i64 m] 3)).alloc (.cells #[.bool false] 4)) w.heap.size a m false :=
  ⟨obj_alloc (obj_alloc (heap_alloc_new w _) _) _, obj_alloc (World.alloc_at (by simp) _) _, World.alloc_at (by simp) _⟩
theorem results6 {w : World} {g : Nat} {tmps : Array Value} (ht : tmps.getD 6 undef = .pointer (some ⟨g, 0, none⟩)) (b : Bool) (h : w.cell? ⟨g, 0, none⟩ = some (.bool b)) : (results Tryd.f6 tmps).run Tryd.prog w = .ok (.bool b) w := by
  have e : Tryd.f6.results = #[.cell 6 4] := rfl
  have ht' : tmps[6]?.getD undef = .pointer (some ⟨g, 0, none⟩) := by simpa using ht
  simp only [results, e]
  simp [Sem.run_bind, Result.andThen, ht']
  go_simp
set_option maxRecDepth 100000 in
theorem iter_bad (a m : Int) (L : Nat) (ad : Option Addr) (cap : Nat) (w : World) (hl : Laid w) (h : a < 1 ∨ 200 < a ∨ 60 < L) : Calls Tryd.prog 6 #[.int .i64 a, .slice ad L cap, .int .i64 m] w fun e w' => e = .returned (.bool true) ∧ Kept No w w' := by
  have HL := Lib.hid hl
  obtain ⟨w1, hw1⟩ : ∃ w1, ((w.alloc (.cells #[.int .i64 a] 3)).alloc (.cells #[.int .i64 m] 3)).alloc (.cells #[.bool false] 4) = w1 := ⟨_, rfl⟩
  have hb : B3 w1 w.heap.size a m false := by rw [← hw1]; exact b3_new w a m
  have HK1 := Lib.hid (show Kept No w w1 by rw [← hw1]; exact (((Kept.refl No w).alloc _).alloc _).alloc _)
  have c0 := obj_cell hb.h0 0
  have c1 := obj_cell hb.h1 0
  have HB := Lib.hid hb
  clear hl hb
  by_cases h1 : a < 1
  · clear h
    go_enter Tryd.func6, Tryd.ntmps6
    go_wp2_with fail
    refine (known_any _ (HL.out.kept HK1.out (not_no _))).mono ?_
    rintro e w' ⟨rfl, hk⟩
    have HK := Lib.hid hk
    have HB2 := Lib.hid (HB.out.kept hk ⟨not_no _, not_no _, not_no _⟩)
    have c2 := obj_cell HB2.out.h2 0
    have f2 := obj_free HB2.out.h2 0
    clear hk
    go_wp2_with fail
    refine bodyPost_ret (results6 rfl true ?_) rfl ⟨rfl, ?_⟩
    · exact obj_cell (HB2.out.set true).h2 0
    · exact (HK1.out.and HK.out).setCell (p := ⟨w.heap.size + 2, 0, none⟩) (fun h => absurd h (show ¬ w.heap.size + 2 < w.heap.size by omega)) _
  · by_cases h2 : 200 < a
    · clear h
      go_enter Tryd.func6, Tryd.ntmps6
      go_wp2_with fail
      refine (known_any _ (HL.out.kept HK1.out (not_no _))).mono ?_
      rintro e w' ⟨rfl, hk⟩
      have HK := Lib.hid hk
      have HB2 := Lib.hid (HB.out.kept hk ⟨not_no _, not_no _, not_no _⟩)
      have c2 := obj_cell HB2.out.h2 0
      have f2 := obj_free HB2.out.h2 0
      clear hk
      go_wp2_with fail
      refine bodyPost_ret (results6 rfl true ?_) rfl ⟨rfl, ?_⟩
      · exact obj_cell (HB2.out.set true).h2 0
      · exact (HK1.out.and HK.out).setCell (p := ⟨w.heap.size + 2, 0, none⟩) (fun h => absurd h (show ¬ w.heap.size + 2 < w.heap.size by omega)) _
    · have d1 : decide ((60 : Int) < (L : Int)) = true := by simp; omega
      clear h
      go_enter Tryd.func6, Tryd.ntmps6
      go_wp2_with fail
      refine (known_any _ (HL.out.kept HK1.out (not_no _))).mono ?_
      rintro e w' ⟨rfl, hk⟩
      have HK := Lib.hid hk
      have HB2 := Lib.hid (HB.out.kept hk ⟨not_no _, not_no _, not_no _⟩)
      have c2 := obj_cell HB2.out.h2 0
      have f2 := obj_free HB2.out.h2 0
      clear hk
      go_wp2_with fail
      refine bodyPost_ret (results6 rfl true ?_) rfl ⟨rfl, ?_⟩
      · exact obj_cell (HB2.out.set true).h2 0
      · exact (HK1.out.and HK.out).setCell (p := ⟨w.heap.size + 2, 0, none⟩) (fun h => absurd h (show ¬ w.heap.size + 2 < w.heap.size by omega)) _
end Go.Proofs.YtkdienebinnopaaDoor
