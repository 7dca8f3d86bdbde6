/-
  Mana: the law's known.
-/
import Derived.Test.YtogfjegedfaekaaDoorWalkW
import Derived.Test.YtogfjegedfaekaaDoorWalkV
import Derived.Test.YtogfjegedfaekaaDoorWalkQ
import Derived.Deep.RegionHeld3
set_option linter.unusedVariables false
set_option linter.unusedSimpArgs false
namespace Go.Proofs.YtogfjegedfaekaaDoor
open Go.RowKit Go.Zn Go.Zm
attribute [local go_sem] Oper.semAt_some

theorem k_total (W : World) : Calls Tryd.prog 14 #[.agg #[.int .i64 3, .int .i64 0, .int .i64 2, .int .i64 1]] W fun e w' => e = .returned (.int .i64 6) ∧ Kept No W w' := total_any 3 0 2 1 W
theorem k_value (W : World) : Calls Tryd.prog 15 #[.agg #[.int .i64 1, .int .i64 1, .int .i64 0, .int .i64 0, .int .i64 3]] W fun e w' => e = .returned (.int .i64 5) ∧ Kept No W w' := value_any 1 1 0 0 3 W
theorem k_adds1 (W : World) : Calls Tryd.prog 16 #[.agg #[.int .i64 3, .int .i64 0, .int .i64 2, .int .i64 98], .int .i64 3, .int .i64 5, .agg #[.int .i64 3, .int .i64 0, .int .i64 2, .int .i64 99], .int .i64 0] W fun e w' => e = .returned (.bool true) ∧ Kept No W w' := adds_any 3 0 2 98 3 5 3 0 2 99 0 W (by decide)
theorem k_adds2 (W : World) : Calls Tryd.prog 16 #[.agg #[.int .i64 3, .int .i64 0, .int .i64 2, .int .i64 1], .int .i64 4, .int .i64 1, .agg #[.int .i64 0, .int .i64 0, .int .i64 0, .int .i64 0], .int .i64 2] W fun e w' => e = .returned (.bool true) ∧ Kept No W w' := adds_any 3 0 2 1 4 1 0 0 0 0 2 W (by decide)
theorem k_pays1 (W : World) : Calls Tryd.prog 20 #[.agg #[.int .i64 3, .int .i64 2, .int .i64 2, .int .i64 0], .agg #[.int .i64 1, .int .i64 0, .int .i64 0, .int .i64 0, .int .i64 3], .agg #[.int .i64 1, .int .i64 1, .int .i64 1, .int .i64 0], .int .i64 0] W fun e w' => e = .returned (.bool true) ∧ Kept No W w' := pays_any 3 2 2 0 1 0 0 0 3 1 1 1 0 0 W
theorem k_pays2 (W : World) : Calls Tryd.prog 20 #[.agg #[.int .i64 5, .int .i64 1, .int .i64 0, .int .i64 0], .agg #[.int .i64 0, .int .i64 0, .int .i64 0, .int .i64 0, .int .i64 3], .agg #[.int .i64 2, .int .i64 1, .int .i64 0, .int .i64 0], .int .i64 0] W fun e w' => e = .returned (.bool true) ∧ Kept No W w' := pays_any 5 1 0 0 0 0 0 0 3 2 1 0 0 0 W
theorem k_pays3 (W : World) : Calls Tryd.prog 20 #[.agg #[.int .i64 1, .int .i64 1, .int .i64 1, .int .i64 1], .agg #[.int .i64 0, .int .i64 0, .int .i64 0, .int .i64 0, .int .i64 2], .agg #[.int .i64 0, .int .i64 0, .int .i64 1, .int .i64 1], .int .i64 0] W fun e w' => e = .returned (.bool true) ∧ Kept No W w' := pays_any 1 1 1 1 0 0 0 0 2 0 0 1 1 0 W
theorem k_can (W : World) : Calls Tryd.prog 21 #[.agg #[.int .i64 2, .int .i64 0, .int .i64 0, .int .i64 0], .agg #[.int .i64 0, .int .i64 1, .int .i64 0, .int .i64 0, .int .i64 0]] W fun e w' => e = .returned (.bool false) ∧ Kept No W w' := can_any 2 0 0 0 0 1 0 0 0 W
theorem k_pays4 (W : World) : Calls Tryd.prog 20 #[.agg #[.int .i64 2, .int .i64 0, .int .i64 0, .int .i64 0], .agg #[.int .i64 0, .int .i64 1, .int .i64 0, .int .i64 0, .int .i64 0], .agg #[.int .i64 0, .int .i64 0, .int .i64 0, .int .i64 0], .int .i64 12] W fun e w' => e = .returned (.bool true) ∧ Kept No W w' := pays_any 2 0 0 0 0 1 0 0 0 0 0 0 0 12 W
theorem k_miss1 (W : World) : Calls Tryd.prog 22 #[.agg #[.int .i64 2, .int .i64 0, .int .i64 0, .int .i64 0], .agg #[.int .i64 0, .int .i64 1, .int .i64 0, .int .i64 0, .int .i64 4]] W fun e w' => e = .returned (.agg #[.int .i64 0, .int .i64 1, .int .i64 0, .int .i64 0, .int .i64 2]) ∧ Kept No W w' := miss_any 2 0 0 0 0 1 0 0 4 W
theorem k_miss2 (W : World) : Calls Tryd.prog 22 #[.agg #[.int .i64 2, .int .i64 1, .int .i64 0, .int .i64 0], .agg #[.int .i64 0, .int .i64 0, .int .i64 0, .int .i64 0, .int .i64 3]] W fun e w' => e = .returned (.agg #[.int .i64 0, .int .i64 0, .int .i64 0, .int .i64 0, .int .i64 0]) ∧ Kept No W w' := miss_any 2 1 0 0 0 0 0 0 3 W
theorem k_ct (a b c d g : Nat) (l : List UInt8) (h0 : 0 < g) (h1 : g < 10) (e : UInt8.ofNat (48 + g) :: lets a b c d = l) : costT a b c d g = l := by
  unfold costT digs
  rw [if_neg (by omega), dec_lt g (by omega), if_pos h1]
  exact e
theorem k_texts1 (W : World) : Calls Tryd.prog 28 #[.agg #[.int .i64 2, .int .i64 0, .int .i64 1, .int .i64 0, .int .i64 3], .string ⟨#[51, 69, 69, 76]⟩, .int .i64 0] W fun e w' => e = .returned (.bool true) ∧ Kept No W w' :=
  (texts_any 2 0 1 0 3 ⟨#[51, 69, 69, 76]⟩ 0 W).mono fun e w' ⟨he, hk⟩ => ⟨he.trans (by
    have e1 : textS 2 0 1 0 3 = strOf [51, 69, 69, 76] := by
      show strOf (costT 2 0 1 0 3) = _
      rw [k_ct 2 0 1 0 3 [51, 69, 69, 76] (by decide) (by decide) rfl]
    rw [e1]
    show Ending.returned (.bool ((strOf [51, 69, 69, 76]).toList == (strOf [51, 69, 69, 76]).toList && true)) = _
    rw [strOf_toList]
    rfl), hk⟩
theorem k_texts2 (W : World) : Calls Tryd.prog 28 #[.agg #[.int .i64 0, .int .i64 0, .int .i64 0, .int .i64 0, .int .i64 0], .string ⟨#[48]⟩, .int .i64 0] W fun e w' => e = .returned (.bool true) ∧ Kept No W w' := (texts_any 0 0 0 0 0 ⟨#[48]⟩ 0 W).mono fun e w' ⟨he, hk⟩ => ⟨he.trans (by
    show Ending.returned (.bool ((strOf [48]).toList == (strOf [48]).toList && true)) = _
    rw [strOf_toList]
    rfl), hk⟩
theorem k_texts3 (W : World) : Calls Tryd.prog 28 #[.agg #[.int .i64 0, .int .i64 0, .int .i64 0, .int .i64 1, .int .i64 0], .string ⟨#[83]⟩, .int .i64 0] W fun e w' => e = .returned (.bool true) ∧ Kept No W w' := (texts_any 0 0 0 1 0 ⟨#[83]⟩ 0 W).mono fun e w' ⟨he, hk⟩ => ⟨he.trans (by
    show Ending.returned (.bool ((strOf [83]).toList == (strOf [83]).toList && true)) = _
    rw [strOf_toList]
    rfl), hk⟩
theorem k_parses1 (W : World) (hE : Errs W) : Calls Tryd.prog 24 #[.string ⟨#[49, 50, 84, 84]⟩, .agg #[.int .i64 0, .int .i64 2, .int .i64 0, .int .i64 0, .int .i64 12], .int .i64 0] W fun e w' => e = .returned (.bool true) ∧ Kept No W w' :=
  (parses_any [49, 50, 84, 84] 0 2 0 0 12 0 W (by decide) hE).mono fun e w' ⟨he, hk⟩ => ⟨he.trans (by
    have h := pOk_of (a := 0) (b := 2) (c := 0) (d := 0) (g := 12) (l := [49, 50, 84, 84]) rfl (by
      unfold costT digs
      rw [if_neg (by decide), dec_lt 12 (by decide), if_neg (by decide)]
      rfl)
    unfold pE
    rw [h.1, h.2]
    rfl), hk⟩
theorem k_bad {l : List UInt8} (h : pOk l = false) (W : World) (hE : Errs W) (hl : l.length ≤ maxLen) : Calls Tryd.prog 24 #[.string (strOf l), .agg #[.int .i64 0, .int .i64 0, .int .i64 0, .int .i64 0, .int .i64 0], .int .i64 6] W fun e w' => e = .returned (.bool true) ∧ Kept No W w' :=
  (parses_any l 0 0 0 0 0 6 W hl hE).mono fun e w' ⟨he, hk⟩ => ⟨he.trans (by
    unfold pE pC
    rw [h]
    rfl), hk⟩
theorem k_parses2 (W : World) (hE : Errs W) : Calls Tryd.prog 24 #[.string ⟨#[48, 69]⟩, .agg #[.int .i64 0, .int .i64 0, .int .i64 0, .int .i64 0, .int .i64 0], .int .i64 6] W fun e w' => e = .returned (.bool true) ∧ Kept No W w' := k_bad (l := [48, 69]) (by rfl) W hE (by decide)
theorem k_parses3 (W : World) (hE : Errs W) : Calls Tryd.prog 24 #[.string ⟨#[84, 69]⟩, .agg #[.int .i64 0, .int .i64 0, .int .i64 0, .int .i64 0, .int .i64 0], .int .i64 6] W fun e w' => e = .returned (.bool true) ∧ Kept No W w' := k_bad (l := [84, 69]) (by rfl) W hE (by decide)
theorem k_parses4 (W : World) (hE : Errs W) : Calls Tryd.prog 24 #[.string ⟨#[]⟩, .agg #[.int .i64 0, .int .i64 0, .int .i64 0, .int .i64 0, .int .i64 0], .int .i64 6] W fun e w' => e = .returned (.bool true) ∧ Kept No W w' := k_bad (l := []) (by rfl) W hE (by decide)
/-- the two costs of the chapter are there -/
structure KW (w0 wr : World) : Prop where
  ht : wr.heap[w0.heap.size]? = some (.cells #[.int .i64 0, .int .i64 1, .int .i64 0, .int .i64 0, .int .i64 0] 25 (0, 0))
  hn : wr.heap[w0.heap.size + 1]? = some (.cells #[.int .i64 0, .int .i64 0, .int .i64 0, .int .i64 0, .int .i64 0] 25 (0, 0))
  kept : Kept No w0 wr
theorem KW.to {w0 wr w' : World} (h : KW w0 wr) (hk : Kept No wr w') : KW w0 w' := ⟨hk.obj h.ht (not_no _), hk.obj h.hn (not_no _), h.kept.and hk⟩
theorem KW.drew {w0 wr : World} (h : KW w0 wr) : KW w0 wr.drew := ⟨h.ht, h.hn, h.kept.drew⟩
set_option maxRecDepth 100000 in
set_option maxHeartbeats 4000000 in
theorem known_any (w : World) (hE : Errs w) : Calls Tryd.prog 17 #[] w fun e w' => e = .returned (.bool true) ∧ Kept No w w' := by
  have hq1 : ∀ W, Sem.run Tryd.prog (binOp .neq 25 (.agg #[.int .i64 0, .int .i64 1, .int .i64 0, .int .i64 0, .int .i64 2]) (.agg #[.int .i64 0, .int .i64 1, .int .i64 0, .int .i64 0, .int .i64 2])) W = .ok (.bool false) W := fun W => neq5 0 1 0 0 2 0 1 0 0 2 W
  have hq2 : ∀ W, Sem.run Tryd.prog (binOp .neq 25 (.agg #[.int .i64 0, .int .i64 0, .int .i64 0, .int .i64 0, .int .i64 0]) (.agg #[.int .i64 0, .int .i64 0, .int .i64 0, .int .i64 0, .int .i64 0])) W = .ok (.bool false) W := fun W => neq5 0 0 0 0 0 0 0 0 0 0 W
  have HE := Lib.hid hE
  clear hE
  obtain ⟨w0, hw0⟩ : ∃ w0, (w.alloc (.cells #[.int .i64 0, .int .i64 0, .int .i64 0, .int .i64 0, .int .i64 0] 25)).alloc (.cells #[.int .i64 0, .int .i64 0, .int .i64 0, .int .i64 0, .int .i64 0] 25) = w0 := ⟨_, rfl⟩
  have hz1 : w0.heap[w.heap.size]? = some (.cells #[.int .i64 0, .int .i64 0, .int .i64 0, .int .i64 0, .int .i64 0] 25 (0, 0)) := by rw [← hw0]; exact obj_alloc (heap_alloc_new w _) _
  have hz2 : w0.heap[w.heap.size + 1]? = some (.cells #[.int .i64 0, .int .i64 0, .int .i64 0, .int .i64 0, .int .i64 0] 25 (0, 0)) := by rw [← hw0]; exact World.alloc_at (by simp) _
  have HK0 := Lib.hid (show Kept No w w0 by rw [← hw0]; exact ((Kept.refl No w).alloc _).alloc _)
  have t0 := obj_cell hz1 0
  have t1 := obj_cell hz1 1
  have t2 := obj_cell hz1 2
  have t3 := obj_cell hz1 3
  have t4 := obj_cell hz1 4
  have n0 := obj_cell hz2 0
  have n1 := obj_cell hz2 1
  have n2 := obj_cell hz2 2
  have n3 := obj_cell hz2 3
  have n4 := obj_cell hz2 4
  have y0 := obj_free hz1 0
  have y1 := obj_free hz1 1
  have y2 := obj_free hz1 2
  have y3 := obj_free hz1 3
  have y4 := obj_free hz1 4
  have z0 := obj_free hz2 0
  have z1 := obj_free hz2 1
  have z2 := obj_free hz2 2
  have z3 := obj_free hz2 3
  have z4 := obj_free hz2 4
  have H1 := Lib.hid (show KW w _ from ⟨obj_setCell (obj_setCell (obj_setCell (obj_setCell (obj_setCell (obj_store (obj_store (obj_store (obj_store (obj_store (hz1) 0 (.int .i64 0)) 1 (.int .i64 1)) 2 (.int .i64 0)) 3 (.int .i64 0)) 4 (.int .i64 0)) (p := ⟨w.heap.size + 1, 0, none⟩) (.int .i64 0) (by simp)) (p := ⟨w.heap.size + 1, 1, none⟩) (.int .i64 0) (by simp)) (p := ⟨w.heap.size + 1, 2, none⟩) (.int .i64 0) (by simp)) (p := ⟨w.heap.size + 1, 3, none⟩) (.int .i64 0) (by simp)) (p := ⟨w.heap.size + 1, 4, none⟩) (.int .i64 0) (by simp), obj_store (obj_store (obj_store (obj_store (obj_store (obj_setCell (obj_setCell (obj_setCell (obj_setCell (obj_setCell (hz2) (p := ⟨w.heap.size, 0, none⟩) (.int .i64 0) (by simp)) (p := ⟨w.heap.size, 1, none⟩) (.int .i64 1) (by simp)) (p := ⟨w.heap.size, 2, none⟩) (.int .i64 0) (by simp)) (p := ⟨w.heap.size, 3, none⟩) (.int .i64 0) (by simp)) (p := ⟨w.heap.size, 4, none⟩) (.int .i64 0) (by simp)) 0 (.int .i64 0)) 1 (.int .i64 0)) 2 (.int .i64 0)) 3 (.int .i64 0)) 4 (.int .i64 0), ((((((((((HK0.out).setCell (p := ⟨w.heap.size, 0, none⟩) (fun h => by simp at h <;> omega) (.int .i64 0)).setCell (p := ⟨w.heap.size, 1, none⟩) (fun h => by simp at h <;> omega) (.int .i64 1)).setCell (p := ⟨w.heap.size, 2, none⟩) (fun h => by simp at h <;> omega) (.int .i64 0)).setCell (p := ⟨w.heap.size, 3, none⟩) (fun h => by simp at h <;> omega) (.int .i64 0)).setCell (p := ⟨w.heap.size, 4, none⟩) (fun h => by simp at h <;> omega) (.int .i64 0)).setCell (p := ⟨w.heap.size + 1, 0, none⟩) (fun h => by simp at h <;> omega) (.int .i64 0)).setCell (p := ⟨w.heap.size + 1, 1, none⟩) (fun h => by simp at h <;> omega) (.int .i64 0)).setCell (p := ⟨w.heap.size + 1, 2, none⟩) (fun h => by simp at h <;> omega) (.int .i64 0)).setCell (p := ⟨w.heap.size + 1, 3, none⟩) (fun h => by simp at h <;> omega) (.int .i64 0)).setCell (p := ⟨w.heap.size + 1, 4, none⟩) (fun h => by simp at h <;> omega) (.int .i64 0)⟩)
  clear hz1 hz2
  go_enter Tryd.func17, Tryd.ntmps17
  go_wp2_with fail
  refine (k_total _).mono ?_
  rintro e w2 ⟨rfl, hk⟩
  have H2 := Lib.hid (H1.out.to hk)
  clear hk
  have t0 := obj_cell H2.out.ht 0
  have t1 := obj_cell H2.out.ht 1
  have t2 := obj_cell H2.out.ht 2
  have t3 := obj_cell H2.out.ht 3
  have t4 := obj_cell H2.out.ht 4
  have n0 := obj_cell H2.out.hn 0
  have n1 := obj_cell H2.out.hn 1
  have n2 := obj_cell H2.out.hn 2
  have n3 := obj_cell H2.out.hn 3
  have n4 := obj_cell H2.out.hn 4
  go_wp2_with fail
  refine (k_value _).mono ?_
  rintro e w3 ⟨rfl, hk⟩
  have H3 := Lib.hid (H2.out.to hk)
  clear hk
  have t0 := obj_cell H3.out.ht 0
  have t1 := obj_cell H3.out.ht 1
  have t2 := obj_cell H3.out.ht 2
  have t3 := obj_cell H3.out.ht 3
  have t4 := obj_cell H3.out.ht 4
  have n0 := obj_cell H3.out.hn 0
  have n1 := obj_cell H3.out.hn 1
  have n2 := obj_cell H3.out.hn 2
  have n3 := obj_cell H3.out.hn 3
  have n4 := obj_cell H3.out.hn 4
  go_wp2_with fail
  refine (k_adds1 _).mono ?_
  rintro e w4 ⟨rfl, hk⟩
  have H4 := Lib.hid (H3.out.to hk)
  clear hk
  have t0 := obj_cell H4.out.ht 0
  have t1 := obj_cell H4.out.ht 1
  have t2 := obj_cell H4.out.ht 2
  have t3 := obj_cell H4.out.ht 3
  have t4 := obj_cell H4.out.ht 4
  have n0 := obj_cell H4.out.hn 0
  have n1 := obj_cell H4.out.hn 1
  have n2 := obj_cell H4.out.hn 2
  have n3 := obj_cell H4.out.hn 3
  have n4 := obj_cell H4.out.hn 4
  go_wp2_with fail
  refine (k_adds2 _).mono ?_
  rintro e w5 ⟨rfl, hk⟩
  have H5 := Lib.hid (H4.out.to hk)
  clear hk
  have t0 := obj_cell H5.out.ht 0
  have t1 := obj_cell H5.out.ht 1
  have t2 := obj_cell H5.out.ht 2
  have t3 := obj_cell H5.out.ht 3
  have t4 := obj_cell H5.out.ht 4
  have n0 := obj_cell H5.out.hn 0
  have n1 := obj_cell H5.out.hn 1
  have n2 := obj_cell H5.out.hn 2
  have n3 := obj_cell H5.out.hn 3
  have n4 := obj_cell H5.out.hn 4
  go_wp2_with fail
  refine (k_pays1 _).mono ?_
  rintro e w6 ⟨rfl, hk⟩
  have H6 := Lib.hid (H5.out.to hk)
  clear hk
  have t0 := obj_cell H6.out.ht 0
  have t1 := obj_cell H6.out.ht 1
  have t2 := obj_cell H6.out.ht 2
  have t3 := obj_cell H6.out.ht 3
  have t4 := obj_cell H6.out.ht 4
  have n0 := obj_cell H6.out.hn 0
  have n1 := obj_cell H6.out.hn 1
  have n2 := obj_cell H6.out.hn 2
  have n3 := obj_cell H6.out.hn 3
  have n4 := obj_cell H6.out.hn 4
  go_wp2_with fail
  refine (k_pays2 _).mono ?_
  rintro e w7 ⟨rfl, hk⟩
  have H7 := Lib.hid (H6.out.to hk)
  clear hk
  have t0 := obj_cell H7.out.ht 0
  have t1 := obj_cell H7.out.ht 1
  have t2 := obj_cell H7.out.ht 2
  have t3 := obj_cell H7.out.ht 3
  have t4 := obj_cell H7.out.ht 4
  have n0 := obj_cell H7.out.hn 0
  have n1 := obj_cell H7.out.hn 1
  have n2 := obj_cell H7.out.hn 2
  have n3 := obj_cell H7.out.hn 3
  have n4 := obj_cell H7.out.hn 4
  go_wp2_with fail
  refine (k_pays3 _).mono ?_
  rintro e w8 ⟨rfl, hk⟩
  have H8 := Lib.hid (H7.out.to hk)
  clear hk
  have t0 := obj_cell H8.out.ht 0
  have t1 := obj_cell H8.out.ht 1
  have t2 := obj_cell H8.out.ht 2
  have t3 := obj_cell H8.out.ht 3
  have t4 := obj_cell H8.out.ht 4
  have n0 := obj_cell H8.out.hn 0
  have n1 := obj_cell H8.out.hn 1
  have n2 := obj_cell H8.out.hn 2
  have n3 := obj_cell H8.out.hn 3
  have n4 := obj_cell H8.out.hn 4
  go_wp2_with fail
  have HZ := Lib.hid H8.out
  go_region_held3 (fun w' => w'.cell? ⟨w.heap.size, 0, none⟩ = some (.int .i64 0) ∧ w'.cell? ⟨w.heap.size, 1, none⟩ = some (.int .i64 1) ∧ w'.cell? ⟨w.heap.size, 2, none⟩ = some (.int .i64 0) ∧ w'.cell? ⟨w.heap.size, 3, none⟩ = some (.int .i64 0) ∧ w'.cell? ⟨w.heap.size, 4, none⟩ = some (.int .i64 0) ∧ w'.cell? ⟨w.heap.size + 1, 0, none⟩ = some (.int .i64 0) ∧ w'.cell? ⟨w.heap.size + 1, 1, none⟩ = some (.int .i64 0) ∧ w'.cell? ⟨w.heap.size + 1, 2, none⟩ = some (.int .i64 0) ∧ w'.cell? ⟨w.heap.size + 1, 3, none⟩ = some (.int .i64 0) ∧ w'.cell? ⟨w.heap.size + 1, 4, none⟩ = some (.int .i64 0)) (first | go_keep | exact ⟨t0, t1, t2, t3, t4, n0, n1, n2, n3, n4⟩)
    (first | (go_at_call 21; (with_reducible refine (k_can _).mono ?_); rintro e wz ⟨rfl, hk⟩; have t0 := hk.cell t0 (not_no _); have t1 := hk.cell t1 (not_no _); have t2 := hk.cell t2 (not_no _); have t3 := hk.cell t3 (not_no _); have t4 := hk.cell t4 (not_no _); have n0 := hk.cell n0 (not_no _); have n1 := hk.cell n1 (not_no _); have n2 := hk.cell n2 (not_no _); have n3 := hk.cell n3 (not_no _); have n4 := hk.cell n4 (not_no _); have HZ := Lib.hid (HZ.out.to (by first | exact hk | exact hk.of_drew)); clear hk) | (go_at_call 20; (with_reducible refine (k_pays4 _).mono ?_); rintro e wz ⟨rfl, hk⟩; have t0 := hk.cell t0 (not_no _); have t1 := hk.cell t1 (not_no _); have t2 := hk.cell t2 (not_no _); have t3 := hk.cell t3 (not_no _); have t4 := hk.cell t4 (not_no _); have n0 := hk.cell n0 (not_no _); have n1 := hk.cell n1 (not_no _); have n2 := hk.cell n2 (not_no _); have n3 := hk.cell n3 (not_no _); have n4 := hk.cell n4 (not_no _); have HZ := Lib.hid (HZ.out.to (by first | exact hk | exact hk.of_drew)); clear hk) | (go_at_call 22; (with_reducible refine (k_miss1 _).mono ?_); rintro e wz ⟨rfl, hk⟩; have t0 := hk.cell t0 (not_no _); have t1 := hk.cell t1 (not_no _); have t2 := hk.cell t2 (not_no _); have t3 := hk.cell t3 (not_no _); have t4 := hk.cell t4 (not_no _); have n0 := hk.cell n0 (not_no _); have n1 := hk.cell n1 (not_no _); have n2 := hk.cell n2 (not_no _); have n3 := hk.cell n3 (not_no _); have n4 := hk.cell n4 (not_no _); have HZ := Lib.hid (HZ.out.to (by first | exact hk | exact hk.of_drew)); clear hk) | (go_at_call 22; (with_reducible refine (k_miss2 _).mono ?_); rintro e wz ⟨rfl, hk⟩; have t0 := hk.cell t0 (not_no _); have t1 := hk.cell t1 (not_no _); have t2 := hk.cell t2 (not_no _); have t3 := hk.cell t3 (not_no _); have t4 := hk.cell t4 (not_no _); have n0 := hk.cell n0 (not_no _); have n1 := hk.cell n1 (not_no _); have n2 := hk.cell n2 (not_no _); have n3 := hk.cell n3 (not_no _); have n4 := hk.cell n4 (not_no _); have HZ := Lib.hid (HZ.out.to (by first | exact hk | exact hk.of_drew)); clear hk))
  have H9 := HZ
  have t0 := obj_cell H9.out.ht 0
  have t1 := obj_cell H9.out.ht 1
  have t2 := obj_cell H9.out.ht 2
  have t3 := obj_cell H9.out.ht 3
  have t4 := obj_cell H9.out.ht 4
  have n0 := obj_cell H9.out.hn 0
  have n1 := obj_cell H9.out.hn 1
  have n2 := obj_cell H9.out.hn 2
  have n3 := obj_cell H9.out.hn 3
  have n4 := obj_cell H9.out.hn 4
  go_wp2_with fail
  refine (k_texts1 _).mono ?_
  rintro e wk10 ⟨rfl, hk⟩
  have H10 := Lib.hid (H9.out.to hk)
  clear hk
  have t0 := obj_cell H10.out.ht 0
  have t1 := obj_cell H10.out.ht 1
  have t2 := obj_cell H10.out.ht 2
  have t3 := obj_cell H10.out.ht 3
  have t4 := obj_cell H10.out.ht 4
  have n0 := obj_cell H10.out.hn 0
  have n1 := obj_cell H10.out.hn 1
  have n2 := obj_cell H10.out.hn 2
  have n3 := obj_cell H10.out.hn 3
  have n4 := obj_cell H10.out.hn 4
  go_wp2_with fail
  refine (k_texts2 _).mono ?_
  rintro e wk11 ⟨rfl, hk⟩
  have H11 := Lib.hid (H10.out.to hk)
  clear hk
  have t0 := obj_cell H11.out.ht 0
  have t1 := obj_cell H11.out.ht 1
  have t2 := obj_cell H11.out.ht 2
  have t3 := obj_cell H11.out.ht 3
  have t4 := obj_cell H11.out.ht 4
  have n0 := obj_cell H11.out.hn 0
  have n1 := obj_cell H11.out.hn 1
  have n2 := obj_cell H11.out.hn 2
  have n3 := obj_cell H11.out.hn 3
  have n4 := obj_cell H11.out.hn 4
  go_wp2_with fail
  refine (k_texts3 _).mono ?_
  rintro e wk12 ⟨rfl, hk⟩
  have H12 := Lib.hid (H11.out.to hk)
  clear hk
  have t0 := obj_cell H12.out.ht 0
  have t1 := obj_cell H12.out.ht 1
  have t2 := obj_cell H12.out.ht 2
  have t3 := obj_cell H12.out.ht 3
  have t4 := obj_cell H12.out.ht 4
  have n0 := obj_cell H12.out.hn 0
  have n1 := obj_cell H12.out.hn 1
  have n2 := obj_cell H12.out.hn 2
  have n3 := obj_cell H12.out.hn 3
  have n4 := obj_cell H12.out.hn 4
  go_wp2_with fail
  refine (k_parses1 _ (HE.out.kept H12.out.kept)).mono ?_
  rintro e wk13 ⟨rfl, hk⟩
  have H13 := Lib.hid (H12.out.to hk)
  clear hk
  have t0 := obj_cell H13.out.ht 0
  have t1 := obj_cell H13.out.ht 1
  have t2 := obj_cell H13.out.ht 2
  have t3 := obj_cell H13.out.ht 3
  have t4 := obj_cell H13.out.ht 4
  have n0 := obj_cell H13.out.hn 0
  have n1 := obj_cell H13.out.hn 1
  have n2 := obj_cell H13.out.hn 2
  have n3 := obj_cell H13.out.hn 3
  have n4 := obj_cell H13.out.hn 4
  go_wp2_with fail
  refine (k_parses2 _ (HE.out.kept H13.out.kept)).mono ?_
  rintro e wk14 ⟨rfl, hk⟩
  have H14 := Lib.hid (H13.out.to hk)
  clear hk
  have t0 := obj_cell H14.out.ht 0
  have t1 := obj_cell H14.out.ht 1
  have t2 := obj_cell H14.out.ht 2
  have t3 := obj_cell H14.out.ht 3
  have t4 := obj_cell H14.out.ht 4
  have n0 := obj_cell H14.out.hn 0
  have n1 := obj_cell H14.out.hn 1
  have n2 := obj_cell H14.out.hn 2
  have n3 := obj_cell H14.out.hn 3
  have n4 := obj_cell H14.out.hn 4
  go_wp2_with fail
  refine (k_parses3 _ (HE.out.kept H14.out.kept)).mono ?_
  rintro e wk15 ⟨rfl, hk⟩
  have H15 := Lib.hid (H14.out.to hk)
  clear hk
  have t0 := obj_cell H15.out.ht 0
  have t1 := obj_cell H15.out.ht 1
  have t2 := obj_cell H15.out.ht 2
  have t3 := obj_cell H15.out.ht 3
  have t4 := obj_cell H15.out.ht 4
  have n0 := obj_cell H15.out.hn 0
  have n1 := obj_cell H15.out.hn 1
  have n2 := obj_cell H15.out.hn 2
  have n3 := obj_cell H15.out.hn 3
  have n4 := obj_cell H15.out.hn 4
  go_wp2_with fail
  refine (k_parses4 _ (HE.out.kept H15.out.kept)).mono ?_
  rintro e wk16 ⟨rfl, hk⟩
  have H16 := Lib.hid (H15.out.to hk)
  clear hk
  have t0 := obj_cell H16.out.ht 0
  have t1 := obj_cell H16.out.ht 1
  have t2 := obj_cell H16.out.ht 2
  have t3 := obj_cell H16.out.ht 3
  have t4 := obj_cell H16.out.ht 4
  have n0 := obj_cell H16.out.hn 0
  have n1 := obj_cell H16.out.hn 1
  have n2 := obj_cell H16.out.hn 2
  have n3 := obj_cell H16.out.hn 3
  have n4 := obj_cell H16.out.hn 4
  go_wp2_with fail
  go_ret
  exact ⟨rfl, H16.out.kept⟩
end Go.Proofs.YtogfjegedfaekaaDoor
