/-
  Mana: the law's adds and pays.
-/
import Derived.Test.YtogfjegedfaekaaDoorWalkP
set_option linter.unusedVariables false
set_option linter.unusedSimpArgs false
namespace Go.Proofs.YtogfjegedfaekaaDoor
open Go.RowKit Go.Zn Go.Zm
attribute [local go_sem] Oper.semAt_some

set_option maxRecDepth 100000 in
theorem adds_any (a b c d k n wa wb wc wd no : Int) (w : World) (hn1 : n ≤ 9223372036854775807) : Calls Tryd.prog 16 #[.agg #[.int .i64 a, .int .i64 b, .int .i64 c, .int .i64 d], .int .i64 k, .int .i64 n, .agg #[.int .i64 wa, .int .i64 wb, .int .i64 wc, .int .i64 wd], .int .i64 no] w fun e w' => e = .returned (.bool (q4 ((addM a b c d k n).a) ((addM a b c d k n).b) ((addM a b c d k n).c) ((addM a b c d k n).d) wa wb wc wd && (addE a b c d k n == no))) ∧ Kept No w w' := by
  have HC := Lib.hid (fun W => add_any a b c d k n W hn1)
  obtain ⟨p, hp⟩ : ∃ p, (addM a b c d k n).a = p := ⟨_, rfl⟩
  obtain ⟨q, hq⟩ : ∃ q, (addM a b c d k n).b = q := ⟨_, rfl⟩
  obtain ⟨r, hr⟩ : ∃ r, (addM a b c d k n).c = r := ⟨_, rfl⟩
  obtain ⟨t, ht⟩ : ∃ t, (addM a b c d k n).d = t := ⟨_, rfl⟩
  obtain ⟨m, hm⟩ : ∃ m, addE a b c d k n = m := ⟨_, rfl⟩
  rw [hp, hq, hr, ht, hm] at HC
  rw [hp, hq, hr, ht, hm]
  clear hp hq hr ht hm
  have he : ∀ W, Sem.run Tryd.prog (binOp .eql 23 (.agg #[.int .i64 p, .int .i64 q, .int .i64 r, .int .i64 t]) (.agg #[.int .i64 wa, .int .i64 wb, .int .i64 wc, .int .i64 wd])) W = .ok (.bool (q4 p q r t wa wb wc wd)) W := fun W => eql4 _ _ _ _ _ _ _ _ W
  obtain ⟨w1, hw1⟩ : ∃ w1, ((w.alloc (.cells #[.int .i64 a, .int .i64 b, .int .i64 c, .int .i64 d] 23)).alloc (.cells #[.int .i64 wa, .int .i64 wb, .int .i64 wc, .int .i64 wd] 23)) = w1 := ⟨_, rfl⟩
  have h0 : w1.heap[w.heap.size]? = some (.cells #[.int .i64 a, .int .i64 b, .int .i64 c, .int .i64 d] 23 (0, 0)) := by rw [← hw1]; exact obj_alloc (heap_alloc_new w _) _
  have h1 : w1.heap[w.heap.size + 1]? = some (.cells #[.int .i64 wa, .int .i64 wb, .int .i64 wc, .int .i64 wd] 23 (0, 0)) := by rw [← hw1]; exact World.alloc_at (by simp) _
  have HK1 := Lib.hid (show Kept No w w1 by rw [← hw1]; exact ((Kept.refl No w).alloc _).alloc _)
  have c0_0 := obj_cell h0 0
  have c0_1 := obj_cell h0 1
  have c0_2 := obj_cell h0 2
  have c0_3 := obj_cell h0 3
  have c1_0 := obj_cell h1 0
  have c1_1 := obj_cell h1 1
  have c1_2 := obj_cell h1 2
  have c1_3 := obj_cell h1 3
  have HW := Lib.hid h1
  clear h0 h1
  go_enter Tryd.func16, Tryd.ntmps16
  go_wp2_with fail
  refine (HC.out _).mono ?_
  rintro e w2 ⟨rfl, hk⟩
  obtain ⟨w3, hw3⟩ : ∃ w3, w2.alloc (.cells #[.int .i64 p, .int .i64 q, .int .i64 r, .int .i64 t] 23) = w3 := ⟨_, rfl⟩
  have hw := obj_alloc (hk.obj HW.out (not_no _)) (.cells #[.int .i64 p, .int .i64 q, .int .i64 r, .int .i64 t] 23)
  have hx := heap_alloc_new w2 (.cells #[.int .i64 p, .int .i64 q, .int .i64 r, .int .i64 t] 23)
  rw [hw3] at hw hx
  have v0 := obj_cell hw 0
  have v1 := obj_cell hw 1
  have v2 := obj_cell hw 2
  have v3 := obj_cell hw 3
  have x0 := obj_cell hx 0
  have x1 := obj_cell hx 1
  have x2 := obj_cell hx 2
  have x3 := obj_cell hx 3
  have HK2 := Lib.hid (show Kept No w w3 by rw [← hw3]; exact (HK1.out.and hk).alloc _)
  clear hk hw hx
  cases hb : q4 p q r t wa wb wc wd
  · have HB := Lib.hid hb
    go_wp2_with fail
    go_ret
    exact ⟨by simp [HB.out], HK2.out⟩
  · have HB := Lib.hid hb
    go_wp2_with fail
    go_ret
    exact ⟨by simp [HB.out], HK2.out⟩
set_option maxRecDepth 100000 in
theorem pays_any (a b c d x y z u g wa wb wc wd no : Int) (w : World)  : Calls Tryd.prog 20 #[.agg #[.int .i64 a, .int .i64 b, .int .i64 c, .int .i64 d], .agg #[.int .i64 x, .int .i64 y, .int .i64 z, .int .i64 u, .int .i64 g], .agg #[.int .i64 wa, .int .i64 wb, .int .i64 wc, .int .i64 wd], .int .i64 no] w fun e w' => e = .returned (.bool (q4 ((payM a b c d x y z u g).a) ((payM a b c d x y z u g).b) ((payM a b c d x y z u g).c) ((payM a b c d x y z u g).d) wa wb wc wd && (payE a b c d x y z u g == no))) ∧ Kept No w w' := by
  have HC := Lib.hid (fun W => pay_any a b c d x y z u g W)
  obtain ⟨p, hp⟩ : ∃ p, (payM a b c d x y z u g).a = p := ⟨_, rfl⟩
  obtain ⟨q, hq⟩ : ∃ q, (payM a b c d x y z u g).b = q := ⟨_, rfl⟩
  obtain ⟨r, hr⟩ : ∃ r, (payM a b c d x y z u g).c = r := ⟨_, rfl⟩
  obtain ⟨t, ht⟩ : ∃ t, (payM a b c d x y z u g).d = t := ⟨_, rfl⟩
  obtain ⟨m, hm⟩ : ∃ m, payE a b c d x y z u g = m := ⟨_, rfl⟩
  rw [hp, hq, hr, ht, hm] at HC
  rw [hp, hq, hr, ht, hm]
  clear hp hq hr ht hm
  have he : ∀ W, Sem.run Tryd.prog (binOp .eql 23 (.agg #[.int .i64 p, .int .i64 q, .int .i64 r, .int .i64 t]) (.agg #[.int .i64 wa, .int .i64 wb, .int .i64 wc, .int .i64 wd])) W = .ok (.bool (q4 p q r t wa wb wc wd)) W := fun W => eql4 _ _ _ _ _ _ _ _ W
  obtain ⟨w1, hw1⟩ : ∃ w1, (((w.alloc (.cells #[.int .i64 a, .int .i64 b, .int .i64 c, .int .i64 d] 23)).alloc (.cells #[.int .i64 x, .int .i64 y, .int .i64 z, .int .i64 u, .int .i64 g] 25)).alloc (.cells #[.int .i64 wa, .int .i64 wb, .int .i64 wc, .int .i64 wd] 23)) = w1 := ⟨_, rfl⟩
  have h0 : w1.heap[w.heap.size]? = some (.cells #[.int .i64 a, .int .i64 b, .int .i64 c, .int .i64 d] 23 (0, 0)) := by rw [← hw1]; exact obj_alloc (obj_alloc (heap_alloc_new w _) _) _
  have h1 : w1.heap[w.heap.size + 1]? = some (.cells #[.int .i64 x, .int .i64 y, .int .i64 z, .int .i64 u, .int .i64 g] 25 (0, 0)) := by rw [← hw1]; exact obj_alloc (World.alloc_at (by simp) _) _
  have h2 : w1.heap[w.heap.size + 1 + 1]? = some (.cells #[.int .i64 wa, .int .i64 wb, .int .i64 wc, .int .i64 wd] 23 (0, 0)) := by rw [← hw1]; exact World.alloc_at (by simp) _
  have HK1 := Lib.hid (show Kept No w w1 by rw [← hw1]; exact (((Kept.refl No w).alloc _).alloc _).alloc _)
  have c0_0 := obj_cell h0 0
  have c0_1 := obj_cell h0 1
  have c0_2 := obj_cell h0 2
  have c0_3 := obj_cell h0 3
  have c1_0 := obj_cell h1 0
  have c1_1 := obj_cell h1 1
  have c1_2 := obj_cell h1 2
  have c1_3 := obj_cell h1 3
  have c1_4 := obj_cell h1 4
  have c2_0 := obj_cell h2 0
  have c2_1 := obj_cell h2 1
  have c2_2 := obj_cell h2 2
  have c2_3 := obj_cell h2 3
  have HW := Lib.hid h2
  clear h0 h1 h2
  go_enter Tryd.func20, Tryd.ntmps20
  go_wp2_with fail
  refine (HC.out _).mono ?_
  rintro e w2 ⟨rfl, hk⟩
  obtain ⟨w3, hw3⟩ : ∃ w3, w2.alloc (.cells #[.int .i64 p, .int .i64 q, .int .i64 r, .int .i64 t] 23) = w3 := ⟨_, rfl⟩
  have hw := obj_alloc (hk.obj HW.out (not_no _)) (.cells #[.int .i64 p, .int .i64 q, .int .i64 r, .int .i64 t] 23)
  have hx := heap_alloc_new w2 (.cells #[.int .i64 p, .int .i64 q, .int .i64 r, .int .i64 t] 23)
  rw [hw3] at hw hx
  have v0 := obj_cell hw 0
  have v1 := obj_cell hw 1
  have v2 := obj_cell hw 2
  have v3 := obj_cell hw 3
  have x0 := obj_cell hx 0
  have x1 := obj_cell hx 1
  have x2 := obj_cell hx 2
  have x3 := obj_cell hx 3
  have HK2 := Lib.hid (show Kept No w w3 by rw [← hw3]; exact (HK1.out.and hk).alloc _)
  clear hk hw hx
  cases hb : q4 p q r t wa wb wc wd
  · have HB := Lib.hid hb
    go_wp2_with fail
    go_ret
    exact ⟨by simp [HB.out], HK2.out⟩
  · have HB := Lib.hid hb
    go_wp2_with fail
    go_ret
    exact ⟨by simp [HB.out], HK2.out⟩
end Go.Proofs.YtogfjegedfaekaaDoor
