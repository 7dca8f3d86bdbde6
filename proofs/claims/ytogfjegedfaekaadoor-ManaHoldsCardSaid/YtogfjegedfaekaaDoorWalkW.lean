/-
  Mana: the law's parses.
-/
import Derived.Test.YtogfjegedfaekaaDoorWalkU
set_option linter.unusedVariables false
set_option linter.unusedSimpArgs false
namespace Go.Proofs.YtogfjegedfaekaaDoor
open Go.RowKit Go.Zn Go.Zm
attribute [local go_sem] Oper.semAt_some

theorem parse_any (l : List UInt8) (w : World) (hl : l.length ≤ maxLen) (hE : Errs w) : Calls Tryd.prog 35 #[.string (strOf l)] w fun e w' => e = .returned (.tuple #[.agg #[.int .i64 ((pC l).of.a), .int .i64 ((pC l).of.b), .int .i64 ((pC l).of.c), .int .i64 ((pC l).of.d), .int .i64 ((pC l).g)], .int .i64 (pE l)]) ∧ Kept No w w' := by
  by_cases h : l.length ≤ 100
  · exact parse_short l w h hE
  · have hp : pOk l = false := by
      cases hp : pOk l
      · rfl
      · exact absurd (pOk_len hp) h
    have e1 : pC l = ⟨⟨0, 0, 0, 0⟩, 0⟩ := by unfold pC; rw [hp]; rfl
    have e2 : pE l = 6 := by unfold pE; rw [hp]; rfl
    rw [e1, e2]
    exact parse_long l w (by omega) hl
set_option maxRecDepth 100000 in
theorem parses_any (l : List UInt8) (wa wb wc wd wg no : Int) (w : World) (hl : l.length ≤ maxLen) (hE : Errs w) : Calls Tryd.prog 24 #[.string (strOf l), .agg #[.int .i64 wa, .int .i64 wb, .int .i64 wc, .int .i64 wd, .int .i64 wg], .int .i64 no] w fun e w' => e = .returned (.bool (q5 (pC l).of.a (pC l).of.b (pC l).of.c (pC l).of.d (pC l).g wa wb wc wd wg && (pE l == no))) ∧ Kept No w w' := by
  have HC := Lib.hid (fun W hE => parse_any l W hl hE)
  obtain ⟨⟨⟨p, q, r, t⟩, u⟩, hp⟩ : ∃ c, pC l = c := ⟨_, rfl⟩
  obtain ⟨m, hm⟩ : ∃ m, pE l = m := ⟨_, rfl⟩
  rw [hp, hm] at HC
  rw [hp, hm]
  clear hp hm
  have he : ∀ W, Sem.run Tryd.prog (binOp .eql 25 (.agg #[.int .i64 p, .int .i64 q, .int .i64 r, .int .i64 t, .int .i64 u]) (.agg #[.int .i64 wa, .int .i64 wb, .int .i64 wc, .int .i64 wd, .int .i64 wg])) W = .ok (.bool (q5 p q r t u wa wb wc wd wg)) W := fun W => eql5 _ _ _ _ _ _ _ _ _ _ W
  obtain ⟨w1, hw1⟩ : ∃ w1, w.alloc (.cells #[.int .i64 wa, .int .i64 wb, .int .i64 wc, .int .i64 wd, .int .i64 wg] 25) = w1 := ⟨_, rfl⟩
  have h0 : w1.heap[w.heap.size]? = some (.cells #[.int .i64 wa, .int .i64 wb, .int .i64 wc, .int .i64 wd, .int .i64 wg] 25 (0, 0)) := by rw [← hw1]; exact heap_alloc_new w _
  have HK1 := Lib.hid (show Kept No w w1 by rw [← hw1]; exact (Kept.refl No w).alloc _)
  have c0 := obj_cell h0 0
  have c1 := obj_cell h0 1
  have c2 := obj_cell h0 2
  have c3 := obj_cell h0 3
  have c4 := obj_cell h0 4
  have HW := Lib.hid h0
  have HE := Lib.hid hE
  clear h0 hE hl
  show Calls Tryd.prog 24 #[.string (strOf l), .agg #[.int .i64 wa, .int .i64 wb, .int .i64 wc, .int .i64 wd, .int .i64 wg], .int .i64 no] w fun e w' => e = .returned (.bool (q5 p q r t u wa wb wc wd wg && (m == no))) ∧ Kept No w w'
  go_enter Tryd.func24, Tryd.ntmps24
  go_wp2_with fail
  refine (HC.out _ (HE.out.kept HK1.out)).mono ?_
  rintro e w2 ⟨rfl, hk⟩
  obtain ⟨w3, hw3⟩ : ∃ w3, w2.alloc (.cells #[.int .i64 p, .int .i64 q, .int .i64 r, .int .i64 t, .int .i64 u] 25) = w3 := ⟨_, rfl⟩
  have hw := obj_alloc (hk.obj HW.out (not_no _)) (.cells #[.int .i64 p, .int .i64 q, .int .i64 r, .int .i64 t, .int .i64 u] 25)
  have hx := heap_alloc_new w2 (.cells #[.int .i64 p, .int .i64 q, .int .i64 r, .int .i64 t, .int .i64 u] 25)
  rw [hw3] at hw hx
  have v0 := obj_cell hw 0
  have v1 := obj_cell hw 1
  have v2 := obj_cell hw 2
  have v3 := obj_cell hw 3
  have v4 := obj_cell hw 4
  have x0 := obj_cell hx 0
  have x1 := obj_cell hx 1
  have x2 := obj_cell hx 2
  have x3 := obj_cell hx 3
  have x4 := obj_cell hx 4
  have HK2 := Lib.hid (show Kept No w w3 by rw [← hw3]; exact (HK1.out.and hk).alloc _)
  clear hk hw hx
  cases hb : q5 p q r t u wa wb wc wd wg
  · have HB := Lib.hid hb
    go_wp2_with fail
    go_ret
    exact ⟨by simp [HB.out], HK2.out⟩
  · have HB := Lib.hid hb
    go_wp2_with fail
    go_ret
    exact ⟨by simp [HB.out], HK2.out⟩
end Go.Proofs.YtogfjegedfaekaaDoor
