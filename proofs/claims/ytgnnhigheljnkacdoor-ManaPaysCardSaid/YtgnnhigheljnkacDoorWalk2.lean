/-
  Mana: the walk of ManaPays.
-/
import Derived.Test.YtgnnhigheljnkacDoorWalk1
set_option linter.unusedVariables false
set_option linter.unusedSimpArgs false
namespace Go.Proofs.YtgnnhigheljnkacDoor
open Go.RowKit Go.Zn Go.Zm
attribute [local go_sem] Oper.semAt_some

theorem k_payself (a b c d x y z u g : Int) {p q r t m : Int} (hM : payM a b c d x y z u g = ⟨p, q, r, t⟩) (hE : payE a b c d x y z u g = m) (W : World) : Calls Tryd.prog 20 #[.agg #[.int .i64 a, .int .i64 b, .int .i64 c, .int .i64 d], .agg #[.int .i64 x, .int .i64 y, .int .i64 z, .int .i64 u, .int .i64 g], .agg #[.int .i64 p, .int .i64 q, .int .i64 r, .int .i64 t], .int .i64 m] W fun e w' => e = .returned (.bool true) ∧ Kept No W w' :=
  (pays_any a b c d x y z u g p q r t m W).mono fun e w' ⟨he, hk⟩ => ⟨he.trans (by rw [hM, hE, q4_self]; simp), hk⟩
structure SP (A C B M : Array Value) (w0 : World) (g : Nat) (wr : World) : Prop where
  s : S2 A C w0 wr
  hw : wr.heap[g]? = some (.cells B 23 (0, 0))
  hx : wr.heap[g + 1]? = some (.cells M 25 (0, 0))
  lt : w0.heap.size + 1 < g
theorem SP.to {A C B M : Array Value} {w0 wr w' : World} {g : Nat} (h : SP A C B M w0 g wr) (hk : Kept No wr w') : SP A C B M w0 g w' := ⟨h.s.to hk, hk.obj h.hw (not_no _), hk.obj h.hx (not_no _), h.lt⟩
theorem SP.put {A C B M : Array Value} {w0 wr : World} {g : Nat} (h : SP A C B M w0 g wr) (k : Nat) (v : Value) : SP A C B (M.setIfInBounds k v) w0 g (wr.setCell ⟨g + 1, k, none⟩ v) :=
  ⟨⟨obj_setCell h.s.hm _ (by have := h.lt; simp; omega), obj_setCell h.s.hc _ (by have := h.lt; simp; omega), h.s.kept.setCell (fun k => by have := h.lt; simp at k; omega) _⟩, obj_setCell h.hw _ (by simp), obj_store h.hx k v, h.lt⟩
set_option maxRecDepth 100000 in
set_option maxHeartbeats 8000000 in
theorem walk_pays (a b c d x y z u g : Int) (w : World) (hE : Errs w) : Calls Tryd.prog 4 #[.agg #[.int .i64 a, .int .i64 b, .int .i64 c, .int .i64 d], .agg #[.int .i64 x, .int .i64 y, .int .i64 z, .int .i64 u, .int .i64 g]] w fun e w' => e = .returned (.bool true) ∧ Kept No w w' := by
  have HE := Lib.hid hE
  clear hE
  obtain ⟨w1, hw1⟩ : ∃ w1, (w.alloc (.cells #[.int .i64 a, .int .i64 b, .int .i64 c, .int .i64 d] 23)).alloc (.cells #[.int .i64 x, .int .i64 y, .int .i64 z, .int .i64 u, .int .i64 g] 25) = w1 := ⟨_, rfl⟩
  have H1 := Lib.hid (show S2 #[.int .i64 a, .int .i64 b, .int .i64 c, .int .i64 d] #[.int .i64 x, .int .i64 y, .int .i64 z, .int .i64 u, .int .i64 g] w w1 by rw [← hw1]; exact S2.start w)
  have m0 := obj_cell H1.out.hm 0
  have m1 := obj_cell H1.out.hm 1
  have m2 := obj_cell H1.out.hm 2
  have m3 := obj_cell H1.out.hm 3
  have c0 := obj_cell H1.out.hc 0
  have c1 := obj_cell H1.out.hc 1
  have c2 := obj_cell H1.out.hc 2
  have c3 := obj_cell H1.out.hc 3
  have c4 := obj_cell H1.out.hc 4
  cases hi : in4 99 a b c d
  · have hcan : canB a b c d x y z u g = false := by simp [canB, hi]
    have hpe : payE a b c d x y z u g = 2 := by simp [payE, hi]
    obtain ⟨⟨p, q, r, t⟩, hM⟩ : ∃ v, payM a b c d x y z u g = v := ⟨_, rfl⟩
    have HRP := Lib.hid (fun W => rpay_any a b c d x y z u g W)
    rw [hM, hpe] at HRP
    have HSELF := Lib.hid (fun W => k_payself a b c d x y z u g hM hpe W)
    have HRV := Lib.hid (fun W => (show Calls Tryd.prog 8 #[.agg #[.int .i64 a, .int .i64 b, .int .i64 c, .int .i64 d]] W fun e w' => e = .returned (.bool false) ∧ Kept No W w' from hi ▸ rvalid_any a b c d W))
    have HCA := Lib.hid (fun W => (show Calls Tryd.prog 21 #[.agg #[.int .i64 a, .int .i64 b, .int .i64 c, .int .i64 d], .agg #[.int .i64 x, .int .i64 y, .int .i64 z, .int .i64 u, .int .i64 g]] W fun e w' => e = .returned (.bool false) ∧ Kept No W w' from hcan ▸ can_any a b c d x y z u g W))
    have hms : missM a b c d x y z u g = ⟨⟨0, 0, 0, 0⟩, 0⟩ := by simp [missM, misM, hi]
    have HMI := Lib.hid (fun W => miss_any a b c d x y z u g W)
    rw [hms] at HMI
    have heq : ∀ W, Sem.run Tryd.prog (binOp .eql 25 (.agg #[.int .i64 0, .int .i64 0, .int .i64 0, .int .i64 0, .int .i64 0]) (.agg #[.int .i64 0, .int .i64 0, .int .i64 0, .int .i64 0, .int .i64 0])) W = .ok (.bool true) W := fun W => by rw [eql5, q5_self]
    clear hi hcan hpe hM hms
    go_enter Tryd.func4, Tryd.ntmps4
    go_wp2_with fail
    refine (HRP.out _).mono ?_
    rintro e w2 ⟨rfl, hk⟩
    obtain ⟨w3, hw3⟩ : ∃ w3, (w2.alloc (.cells #[.int .i64 p, .int .i64 q, .int .i64 r, .int .i64 t] 23)).alloc (.cells #[.int .i64 0, .int .i64 0, .int .i64 0, .int .i64 0, .int .i64 0] 25) = w3 := ⟨_, rfl⟩
    have H3 := Lib.hid (show SP #[.int .i64 a, .int .i64 b, .int .i64 c, .int .i64 d] #[.int .i64 x, .int .i64 y, .int .i64 z, .int .i64 u, .int .i64 g] #[.int .i64 p, .int .i64 q, .int .i64 r, .int .i64 t] #[.int .i64 0, .int .i64 0, .int .i64 0, .int .i64 0, .int .i64 0] w w2.heap.size w3 by
      rw [← hw3]
      exact ⟨((H1.out.to hk).to ((Kept.refl No w2).alloc _)).to ((Kept.refl No _).alloc _), obj_alloc (heap_alloc_new w2 _) _, World.alloc_at (by simp) _, obj_lt (hk.obj H1.out.hc (not_no _))⟩)
    clear hk
    have m0 := obj_cell H3.out.s.hm 0
    have m1 := obj_cell H3.out.s.hm 1
    have m2 := obj_cell H3.out.s.hm 2
    have m3 := obj_cell H3.out.s.hm 3
    have c0 := obj_cell H3.out.s.hc 0
    have c1 := obj_cell H3.out.s.hc 1
    have c2 := obj_cell H3.out.s.hc 2
    have c3 := obj_cell H3.out.s.hc 3
    have c4 := obj_cell H3.out.s.hc 4
    have v0 := obj_cell H3.out.hw 0
    have v1 := obj_cell H3.out.hw 1
    have v2 := obj_cell H3.out.hw 2
    have v3 := obj_cell H3.out.hw 3
    have n0 := obj_cell H3.out.hx 0
    have n1 := obj_cell H3.out.hx 1
    have n2 := obj_cell H3.out.hx 2
    have n3 := obj_cell H3.out.hx 3
    have n4 := obj_cell H3.out.hx 4
    go_wp2_with fail
    refine (HRV.out _).mono ?_
    rintro e w4 ⟨rfl, hk⟩
    have H4 := Lib.hid (H3.out.to hk)
    clear hk
    have m0 := obj_cell H4.out.s.hm 0
    have m1 := obj_cell H4.out.s.hm 1
    have m2 := obj_cell H4.out.s.hm 2
    have m3 := obj_cell H4.out.s.hm 3
    have c0 := obj_cell H4.out.s.hc 0
    have c1 := obj_cell H4.out.s.hc 1
    have c2 := obj_cell H4.out.s.hc 2
    have c3 := obj_cell H4.out.s.hc 3
    have c4 := obj_cell H4.out.s.hc 4
    have v0 := obj_cell H4.out.hw 0
    have v1 := obj_cell H4.out.hw 1
    have v2 := obj_cell H4.out.hw 2
    have v3 := obj_cell H4.out.hw 3
    have n0 := obj_cell H4.out.hx 0
    have n1 := obj_cell H4.out.hx 1
    have n2 := obj_cell H4.out.hx 2
    have n3 := obj_cell H4.out.hx 3
    have n4 := obj_cell H4.out.hx 4
    go_wp2_with fail
    have HZ := Lib.hid H4.out
    go_region_held3 (fun w' => w'.cell? ⟨w.heap.size, 0, none⟩ = some (.int .i64 a) ∧ w'.cell? ⟨w.heap.size, 1, none⟩ = some (.int .i64 b) ∧ w'.cell? ⟨w.heap.size, 2, none⟩ = some (.int .i64 c) ∧ w'.cell? ⟨w.heap.size, 3, none⟩ = some (.int .i64 d) ∧ w'.cell? ⟨w.heap.size + 1, 0, none⟩ = some (.int .i64 x) ∧ w'.cell? ⟨w.heap.size + 1, 1, none⟩ = some (.int .i64 y) ∧ w'.cell? ⟨w.heap.size + 1, 2, none⟩ = some (.int .i64 z) ∧ w'.cell? ⟨w.heap.size + 1, 3, none⟩ = some (.int .i64 u) ∧ w'.cell? ⟨w.heap.size + 1, 4, none⟩ = some (.int .i64 g) ∧ w'.cell? ⟨w2.heap.size, 0, none⟩ = some (.int .i64 p) ∧ w'.cell? ⟨w2.heap.size, 1, none⟩ = some (.int .i64 q) ∧ w'.cell? ⟨w2.heap.size, 2, none⟩ = some (.int .i64 r) ∧ w'.cell? ⟨w2.heap.size, 3, none⟩ = some (.int .i64 t) ∧ w'.cell? ⟨w2.heap.size + 1, 0, none⟩ = some (.int .i64 (0)) ∧ w'.cell? ⟨w2.heap.size + 1, 1, none⟩ = some (.int .i64 (0)) ∧ w'.cell? ⟨w2.heap.size + 1, 2, none⟩ = some (.int .i64 (0)) ∧ w'.cell? ⟨w2.heap.size + 1, 3, none⟩ = some (.int .i64 (0)) ∧ w'.cell? ⟨w2.heap.size + 1, 4, none⟩ = some (.int .i64 (0))) (first | go_keep | exact ⟨m0, m1, m2, m3, c0, c1, c2, c3, c4, v0, v1, v2, v3, n0, n1, n2, n3, n4⟩)
      (first | (go_at_call 20; refine (HSELF.out _).mono ?_; rintro e wz ⟨rfl, hk⟩; have m0 := hk.cell m0 (not_no _); have m1 := hk.cell m1 (not_no _); have m2 := hk.cell m2 (not_no _); have m3 := hk.cell m3 (not_no _); have c0 := hk.cell c0 (not_no _); have c1 := hk.cell c1 (not_no _); have c2 := hk.cell c2 (not_no _); have c3 := hk.cell c3 (not_no _); have c4 := hk.cell c4 (not_no _); have v0 := hk.cell v0 (not_no _); have v1 := hk.cell v1 (not_no _); have v2 := hk.cell v2 (not_no _); have v3 := hk.cell v3 (not_no _); have n0 := hk.cell n0 (not_no _); have n1 := hk.cell n1 (not_no _); have n2 := hk.cell n2 (not_no _); have n3 := hk.cell n3 (not_no _); have n4 := hk.cell n4 (not_no _); have HZ := Lib.hid (HZ.out.to (by first | exact hk | exact hk.of_drew)); clear hk) | (go_at_call 21; refine (HCA.out _).mono ?_; rintro e wz ⟨rfl, hk⟩; have m0 := hk.cell m0 (not_no _); have m1 := hk.cell m1 (not_no _); have m2 := hk.cell m2 (not_no _); have m3 := hk.cell m3 (not_no _); have c0 := hk.cell c0 (not_no _); have c1 := hk.cell c1 (not_no _); have c2 := hk.cell c2 (not_no _); have c3 := hk.cell c3 (not_no _); have c4 := hk.cell c4 (not_no _); have v0 := hk.cell v0 (not_no _); have v1 := hk.cell v1 (not_no _); have v2 := hk.cell v2 (not_no _); have v3 := hk.cell v3 (not_no _); have n0 := hk.cell n0 (not_no _); have n1 := hk.cell n1 (not_no _); have n2 := hk.cell n2 (not_no _); have n3 := hk.cell n3 (not_no _); have n4 := hk.cell n4 (not_no _); have HZ := Lib.hid (HZ.out.to (by first | exact hk | exact hk.of_drew)); clear hk) | (go_at_call 22; refine (HMI.out _).mono ?_; rintro e wz ⟨rfl, hk⟩; have m0 := hk.cell m0 (not_no _); have m1 := hk.cell m1 (not_no _); have m2 := hk.cell m2 (not_no _); have m3 := hk.cell m3 (not_no _); have c0 := hk.cell c0 (not_no _); have c1 := hk.cell c1 (not_no _); have c2 := hk.cell c2 (not_no _); have c3 := hk.cell c3 (not_no _); have c4 := hk.cell c4 (not_no _); have v0 := hk.cell v0 (not_no _); have v1 := hk.cell v1 (not_no _); have v2 := hk.cell v2 (not_no _); have v3 := hk.cell v3 (not_no _); have n0 := hk.cell n0 (not_no _); have n1 := hk.cell n1 (not_no _); have n2 := hk.cell n2 (not_no _); have n3 := hk.cell n3 (not_no _); have n4 := hk.cell n4 (not_no _); have HZ := Lib.hid (HZ.out.to (by first | exact hk | exact hk.of_drew)); clear hk) | (go_at_call 17; refine (known_any _ ?_).mono ?_; (exact HE.out.kept HZ.out.s.kept); rintro e wz ⟨rfl, hk⟩; have m0 := hk.cell m0 (not_no _); have m1 := hk.cell m1 (not_no _); have m2 := hk.cell m2 (not_no _); have m3 := hk.cell m3 (not_no _); have c0 := hk.cell c0 (not_no _); have c1 := hk.cell c1 (not_no _); have c2 := hk.cell c2 (not_no _); have c3 := hk.cell c3 (not_no _); have c4 := hk.cell c4 (not_no _); have v0 := hk.cell v0 (not_no _); have v1 := hk.cell v1 (not_no _); have v2 := hk.cell v2 (not_no _); have v3 := hk.cell v3 (not_no _); have n0 := hk.cell n0 (not_no _); have n1 := hk.cell n1 (not_no _); have n2 := hk.cell n2 (not_no _); have n3 := hk.cell n3 (not_no _); have n4 := hk.cell n4 (not_no _); have HZ := Lib.hid (HZ.out.to (by first | exact hk | exact hk.of_drew)); clear hk))
    all_goals go_wp2_with fail
    all_goals go_ret
    all_goals exact ⟨rfl, HZ.out.s.kept⟩
  · cases hj : cost x y z u g
    · have hcan : canB a b c d x y z u g = false := by simp [canB, hj]
      have hpe : payE a b c d x y z u g = 2 := by simp [payE, hi, hj]
      obtain ⟨⟨p, q, r, t⟩, hM⟩ : ∃ v, payM a b c d x y z u g = v := ⟨_, rfl⟩
      have HRP := Lib.hid (fun W => rpay_any a b c d x y z u g W)
      rw [hM, hpe] at HRP
      have HSELF := Lib.hid (fun W => k_payself a b c d x y z u g hM hpe W)
      have HRV := Lib.hid (fun W => (show Calls Tryd.prog 8 #[.agg #[.int .i64 a, .int .i64 b, .int .i64 c, .int .i64 d]] W fun e w' => e = .returned (.bool true) ∧ Kept No W w' from hi ▸ rvalid_any a b c d W))
      have HRC := Lib.hid (fun W => (show Calls Tryd.prog 10 #[.agg #[.int .i64 x, .int .i64 y, .int .i64 z, .int .i64 u, .int .i64 g]] W fun e w' => e = .returned (.bool false) ∧ Kept No W w' from hj ▸ rvalidCost_any x y z u g W))
      have HCA := Lib.hid (fun W => (show Calls Tryd.prog 21 #[.agg #[.int .i64 a, .int .i64 b, .int .i64 c, .int .i64 d], .agg #[.int .i64 x, .int .i64 y, .int .i64 z, .int .i64 u, .int .i64 g]] W fun e w' => e = .returned (.bool false) ∧ Kept No W w' from hcan ▸ can_any a b c d x y z u g W))
      have hms : missM a b c d x y z u g = ⟨⟨0, 0, 0, 0⟩, 0⟩ := by simp [missM, misM, hi, hj]
      have HMI := Lib.hid (fun W => miss_any a b c d x y z u g W)
      rw [hms] at HMI
      have heq : ∀ W, Sem.run Tryd.prog (binOp .eql 25 (.agg #[.int .i64 0, .int .i64 0, .int .i64 0, .int .i64 0, .int .i64 0]) (.agg #[.int .i64 0, .int .i64 0, .int .i64 0, .int .i64 0, .int .i64 0])) W = .ok (.bool true) W := fun W => by rw [eql5, q5_self]
      clear hi hj hcan hpe hM hms
      go_enter Tryd.func4, Tryd.ntmps4
      go_wp2_with fail
      refine (HRP.out _).mono ?_
      rintro e w2 ⟨rfl, hk⟩
      obtain ⟨w3, hw3⟩ : ∃ w3, (w2.alloc (.cells #[.int .i64 p, .int .i64 q, .int .i64 r, .int .i64 t] 23)).alloc (.cells #[.int .i64 0, .int .i64 0, .int .i64 0, .int .i64 0, .int .i64 0] 25) = w3 := ⟨_, rfl⟩
      have H3 := Lib.hid (show SP #[.int .i64 a, .int .i64 b, .int .i64 c, .int .i64 d] #[.int .i64 x, .int .i64 y, .int .i64 z, .int .i64 u, .int .i64 g] #[.int .i64 p, .int .i64 q, .int .i64 r, .int .i64 t] #[.int .i64 0, .int .i64 0, .int .i64 0, .int .i64 0, .int .i64 0] w w2.heap.size w3 by
        rw [← hw3]
        exact ⟨((H1.out.to hk).to ((Kept.refl No w2).alloc _)).to ((Kept.refl No _).alloc _), obj_alloc (heap_alloc_new w2 _) _, World.alloc_at (by simp) _, obj_lt (hk.obj H1.out.hc (not_no _))⟩)
      clear hk
      have m0 := obj_cell H3.out.s.hm 0
      have m1 := obj_cell H3.out.s.hm 1
      have m2 := obj_cell H3.out.s.hm 2
      have m3 := obj_cell H3.out.s.hm 3
      have c0 := obj_cell H3.out.s.hc 0
      have c1 := obj_cell H3.out.s.hc 1
      have c2 := obj_cell H3.out.s.hc 2
      have c3 := obj_cell H3.out.s.hc 3
      have c4 := obj_cell H3.out.s.hc 4
      have v0 := obj_cell H3.out.hw 0
      have v1 := obj_cell H3.out.hw 1
      have v2 := obj_cell H3.out.hw 2
      have v3 := obj_cell H3.out.hw 3
      have n0 := obj_cell H3.out.hx 0
      have n1 := obj_cell H3.out.hx 1
      have n2 := obj_cell H3.out.hx 2
      have n3 := obj_cell H3.out.hx 3
      have n4 := obj_cell H3.out.hx 4
      go_wp2_with fail
      refine (HRV.out _).mono ?_
      rintro e w4 ⟨rfl, hk⟩
      have H4 := Lib.hid (H3.out.to hk)
      clear hk
      have m0 := obj_cell H4.out.s.hm 0
      have m1 := obj_cell H4.out.s.hm 1
      have m2 := obj_cell H4.out.s.hm 2
      have m3 := obj_cell H4.out.s.hm 3
      have c0 := obj_cell H4.out.s.hc 0
      have c1 := obj_cell H4.out.s.hc 1
      have c2 := obj_cell H4.out.s.hc 2
      have c3 := obj_cell H4.out.s.hc 3
      have c4 := obj_cell H4.out.s.hc 4
      have v0 := obj_cell H4.out.hw 0
      have v1 := obj_cell H4.out.hw 1
      have v2 := obj_cell H4.out.hw 2
      have v3 := obj_cell H4.out.hw 3
      have n0 := obj_cell H4.out.hx 0
      have n1 := obj_cell H4.out.hx 1
      have n2 := obj_cell H4.out.hx 2
      have n3 := obj_cell H4.out.hx 3
      have n4 := obj_cell H4.out.hx 4
      go_wp2_with fail
      refine (HRC.out _).mono ?_
      rintro e w5 ⟨rfl, hk⟩
      have H5 := Lib.hid (H4.out.to hk)
      clear hk
      have m0 := obj_cell H5.out.s.hm 0
      have m1 := obj_cell H5.out.s.hm 1
      have m2 := obj_cell H5.out.s.hm 2
      have m3 := obj_cell H5.out.s.hm 3
      have c0 := obj_cell H5.out.s.hc 0
      have c1 := obj_cell H5.out.s.hc 1
      have c2 := obj_cell H5.out.s.hc 2
      have c3 := obj_cell H5.out.s.hc 3
      have c4 := obj_cell H5.out.s.hc 4
      have v0 := obj_cell H5.out.hw 0
      have v1 := obj_cell H5.out.hw 1
      have v2 := obj_cell H5.out.hw 2
      have v3 := obj_cell H5.out.hw 3
      have n0 := obj_cell H5.out.hx 0
      have n1 := obj_cell H5.out.hx 1
      have n2 := obj_cell H5.out.hx 2
      have n3 := obj_cell H5.out.hx 3
      have n4 := obj_cell H5.out.hx 4
      go_wp2_with fail
      have HZ := Lib.hid H5.out
      go_region_held3 (fun w' => w'.cell? ⟨w.heap.size, 0, none⟩ = some (.int .i64 a) ∧ w'.cell? ⟨w.heap.size, 1, none⟩ = some (.int .i64 b) ∧ w'.cell? ⟨w.heap.size, 2, none⟩ = some (.int .i64 c) ∧ w'.cell? ⟨w.heap.size, 3, none⟩ = some (.int .i64 d) ∧ w'.cell? ⟨w.heap.size + 1, 0, none⟩ = some (.int .i64 x) ∧ w'.cell? ⟨w.heap.size + 1, 1, none⟩ = some (.int .i64 y) ∧ w'.cell? ⟨w.heap.size + 1, 2, none⟩ = some (.int .i64 z) ∧ w'.cell? ⟨w.heap.size + 1, 3, none⟩ = some (.int .i64 u) ∧ w'.cell? ⟨w.heap.size + 1, 4, none⟩ = some (.int .i64 g) ∧ w'.cell? ⟨w2.heap.size, 0, none⟩ = some (.int .i64 p) ∧ w'.cell? ⟨w2.heap.size, 1, none⟩ = some (.int .i64 q) ∧ w'.cell? ⟨w2.heap.size, 2, none⟩ = some (.int .i64 r) ∧ w'.cell? ⟨w2.heap.size, 3, none⟩ = some (.int .i64 t) ∧ w'.cell? ⟨w2.heap.size + 1, 0, none⟩ = some (.int .i64 (0)) ∧ w'.cell? ⟨w2.heap.size + 1, 1, none⟩ = some (.int .i64 (0)) ∧ w'.cell? ⟨w2.heap.size + 1, 2, none⟩ = some (.int .i64 (0)) ∧ w'.cell? ⟨w2.heap.size + 1, 3, none⟩ = some (.int .i64 (0)) ∧ w'.cell? ⟨w2.heap.size + 1, 4, none⟩ = some (.int .i64 (0))) (first | go_keep | exact ⟨m0, m1, m2, m3, c0, c1, c2, c3, c4, v0, v1, v2, v3, n0, n1, n2, n3, n4⟩)
        (first | (go_at_call 20; refine (HSELF.out _).mono ?_; rintro e wz ⟨rfl, hk⟩; have m0 := hk.cell m0 (not_no _); have m1 := hk.cell m1 (not_no _); have m2 := hk.cell m2 (not_no _); have m3 := hk.cell m3 (not_no _); have c0 := hk.cell c0 (not_no _); have c1 := hk.cell c1 (not_no _); have c2 := hk.cell c2 (not_no _); have c3 := hk.cell c3 (not_no _); have c4 := hk.cell c4 (not_no _); have v0 := hk.cell v0 (not_no _); have v1 := hk.cell v1 (not_no _); have v2 := hk.cell v2 (not_no _); have v3 := hk.cell v3 (not_no _); have n0 := hk.cell n0 (not_no _); have n1 := hk.cell n1 (not_no _); have n2 := hk.cell n2 (not_no _); have n3 := hk.cell n3 (not_no _); have n4 := hk.cell n4 (not_no _); have HZ := Lib.hid (HZ.out.to (by first | exact hk | exact hk.of_drew)); clear hk) | (go_at_call 21; refine (HCA.out _).mono ?_; rintro e wz ⟨rfl, hk⟩; have m0 := hk.cell m0 (not_no _); have m1 := hk.cell m1 (not_no _); have m2 := hk.cell m2 (not_no _); have m3 := hk.cell m3 (not_no _); have c0 := hk.cell c0 (not_no _); have c1 := hk.cell c1 (not_no _); have c2 := hk.cell c2 (not_no _); have c3 := hk.cell c3 (not_no _); have c4 := hk.cell c4 (not_no _); have v0 := hk.cell v0 (not_no _); have v1 := hk.cell v1 (not_no _); have v2 := hk.cell v2 (not_no _); have v3 := hk.cell v3 (not_no _); have n0 := hk.cell n0 (not_no _); have n1 := hk.cell n1 (not_no _); have n2 := hk.cell n2 (not_no _); have n3 := hk.cell n3 (not_no _); have n4 := hk.cell n4 (not_no _); have HZ := Lib.hid (HZ.out.to (by first | exact hk | exact hk.of_drew)); clear hk) | (go_at_call 22; refine (HMI.out _).mono ?_; rintro e wz ⟨rfl, hk⟩; have m0 := hk.cell m0 (not_no _); have m1 := hk.cell m1 (not_no _); have m2 := hk.cell m2 (not_no _); have m3 := hk.cell m3 (not_no _); have c0 := hk.cell c0 (not_no _); have c1 := hk.cell c1 (not_no _); have c2 := hk.cell c2 (not_no _); have c3 := hk.cell c3 (not_no _); have c4 := hk.cell c4 (not_no _); have v0 := hk.cell v0 (not_no _); have v1 := hk.cell v1 (not_no _); have v2 := hk.cell v2 (not_no _); have v3 := hk.cell v3 (not_no _); have n0 := hk.cell n0 (not_no _); have n1 := hk.cell n1 (not_no _); have n2 := hk.cell n2 (not_no _); have n3 := hk.cell n3 (not_no _); have n4 := hk.cell n4 (not_no _); have HZ := Lib.hid (HZ.out.to (by first | exact hk | exact hk.of_drew)); clear hk) | (go_at_call 17; refine (known_any _ ?_).mono ?_; (exact HE.out.kept HZ.out.s.kept); rintro e wz ⟨rfl, hk⟩; have m0 := hk.cell m0 (not_no _); have m1 := hk.cell m1 (not_no _); have m2 := hk.cell m2 (not_no _); have m3 := hk.cell m3 (not_no _); have c0 := hk.cell c0 (not_no _); have c1 := hk.cell c1 (not_no _); have c2 := hk.cell c2 (not_no _); have c3 := hk.cell c3 (not_no _); have c4 := hk.cell c4 (not_no _); have v0 := hk.cell v0 (not_no _); have v1 := hk.cell v1 (not_no _); have v2 := hk.cell v2 (not_no _); have v3 := hk.cell v3 (not_no _); have n0 := hk.cell n0 (not_no _); have n1 := hk.cell n1 (not_no _); have n2 := hk.cell n2 (not_no _); have n3 := hk.cell n3 (not_no _); have n4 := hk.cell n4 (not_no _); have HZ := Lib.hid (HZ.out.to (by first | exact hk | exact hk.of_drew)); clear hk))
      all_goals go_wp2_with fail
      all_goals go_ret
      all_goals exact ⟨rfl, HZ.out.s.kept⟩
    · cases hc : canB a b c d x y z u g
      · have hcan : canB a b c d x y z u g = false := by exact hc
        have hpe : payE a b c d x y z u g = 12 := by simp [payE, hi, hj, hc]
        obtain ⟨⟨p, q, r, t⟩, hM⟩ : ∃ v, payM a b c d x y z u g = v := ⟨_, rfl⟩
        have HRP := Lib.hid (fun W => rpay_any a b c d x y z u g W)
        rw [hM, hpe] at HRP
        have HSELF := Lib.hid (fun W => k_payself a b c d x y z u g hM hpe W)
        have HRV := Lib.hid (fun W => (show Calls Tryd.prog 8 #[.agg #[.int .i64 a, .int .i64 b, .int .i64 c, .int .i64 d]] W fun e w' => e = .returned (.bool true) ∧ Kept No W w' from hi ▸ rvalid_any a b c d W))
        have HRC := Lib.hid (fun W => (show Calls Tryd.prog 10 #[.agg #[.int .i64 x, .int .i64 y, .int .i64 z, .int .i64 u, .int .i64 g]] W fun e w' => e = .returned (.bool true) ∧ Kept No W w' from hj ▸ rvalidCost_any x y z u g W))
        have HRM := Lib.hid (fun W => rmiss_ok a b c d x y z u g W hi hj)
        have HCA := Lib.hid (fun W => (show Calls Tryd.prog 21 #[.agg #[.int .i64 a, .int .i64 b, .int .i64 c, .int .i64 d], .agg #[.int .i64 x, .int .i64 y, .int .i64 z, .int .i64 u, .int .i64 g]] W fun e w' => e = .returned (.bool false) ∧ Kept No W w' from hcan ▸ can_any a b c d x y z u g W))
        have hms : missM a b c d x y z u g = ⟨⟨mis x a, mis y b, mis z c, mis u d⟩, lack ⟨x, y, z, u⟩ ⟨a, b, c, d⟩ g⟩ := by simp [missM, misM, hi, hj]
        have HMI := Lib.hid (fun W => miss_any a b c d x y z u g W)
        rw [hms] at HMI
        obtain ⟨e, hee⟩ : ∃ v, mis x a = v := ⟨_, rfl⟩
        obtain ⟨f, hff⟩ : ∃ v, mis y b = v := ⟨_, rfl⟩
        obtain ⟨h, hhh⟩ : ∃ v, mis z c = v := ⟨_, rfl⟩
        obtain ⟨i, hii⟩ : ∃ v, mis u d = v := ⟨_, rfl⟩
        obtain ⟨L, hLL⟩ : ∃ v, lack ⟨x, y, z, u⟩ ⟨a, b, c, d⟩ g = v := ⟨_, rfl⟩
        rw [hee, hff, hhh, hii, hLL] at HMI HRM
        clear hee hff hhh hii hLL
        have heq : ∀ W, Sem.run Tryd.prog (binOp .eql 25 (.agg #[.int .i64 e, .int .i64 f, .int .i64 h, .int .i64 i, .int .i64 L]) (.agg #[.int .i64 e, .int .i64 f, .int .i64 h, .int .i64 i, .int .i64 L])) W = .ok (.bool true) W := fun W => by rw [eql5, q5_self]
        clear hi hj hc hcan hpe hM hms
        go_enter Tryd.func4, Tryd.ntmps4
        go_wp2_with fail
        refine (HRP.out _).mono ?_
        rintro e w2 ⟨rfl, hk⟩
        obtain ⟨w3, hw3⟩ : ∃ w3, (w2.alloc (.cells #[.int .i64 p, .int .i64 q, .int .i64 r, .int .i64 t] 23)).alloc (.cells #[.int .i64 0, .int .i64 0, .int .i64 0, .int .i64 0, .int .i64 0] 25) = w3 := ⟨_, rfl⟩
        have H3 := Lib.hid (show SP #[.int .i64 a, .int .i64 b, .int .i64 c, .int .i64 d] #[.int .i64 x, .int .i64 y, .int .i64 z, .int .i64 u, .int .i64 g] #[.int .i64 p, .int .i64 q, .int .i64 r, .int .i64 t] #[.int .i64 0, .int .i64 0, .int .i64 0, .int .i64 0, .int .i64 0] w w2.heap.size w3 by
          rw [← hw3]
          exact ⟨((H1.out.to hk).to ((Kept.refl No w2).alloc _)).to ((Kept.refl No _).alloc _), obj_alloc (heap_alloc_new w2 _) _, World.alloc_at (by simp) _, obj_lt (hk.obj H1.out.hc (not_no _))⟩)
        clear hk
        have m0 := obj_cell H3.out.s.hm 0
        have m1 := obj_cell H3.out.s.hm 1
        have m2 := obj_cell H3.out.s.hm 2
        have m3 := obj_cell H3.out.s.hm 3
        have c0 := obj_cell H3.out.s.hc 0
        have c1 := obj_cell H3.out.s.hc 1
        have c2 := obj_cell H3.out.s.hc 2
        have c3 := obj_cell H3.out.s.hc 3
        have c4 := obj_cell H3.out.s.hc 4
        have v0 := obj_cell H3.out.hw 0
        have v1 := obj_cell H3.out.hw 1
        have v2 := obj_cell H3.out.hw 2
        have v3 := obj_cell H3.out.hw 3
        have n0 := obj_cell H3.out.hx 0
        have n1 := obj_cell H3.out.hx 1
        have n2 := obj_cell H3.out.hx 2
        have n3 := obj_cell H3.out.hx 3
        have n4 := obj_cell H3.out.hx 4
        go_wp2_with fail
        refine (HRV.out _).mono ?_
        rintro e w4 ⟨rfl, hk⟩
        have H4 := Lib.hid (H3.out.to hk)
        clear hk
        have m0 := obj_cell H4.out.s.hm 0
        have m1 := obj_cell H4.out.s.hm 1
        have m2 := obj_cell H4.out.s.hm 2
        have m3 := obj_cell H4.out.s.hm 3
        have c0 := obj_cell H4.out.s.hc 0
        have c1 := obj_cell H4.out.s.hc 1
        have c2 := obj_cell H4.out.s.hc 2
        have c3 := obj_cell H4.out.s.hc 3
        have c4 := obj_cell H4.out.s.hc 4
        have v0 := obj_cell H4.out.hw 0
        have v1 := obj_cell H4.out.hw 1
        have v2 := obj_cell H4.out.hw 2
        have v3 := obj_cell H4.out.hw 3
        have n0 := obj_cell H4.out.hx 0
        have n1 := obj_cell H4.out.hx 1
        have n2 := obj_cell H4.out.hx 2
        have n3 := obj_cell H4.out.hx 3
        have n4 := obj_cell H4.out.hx 4
        go_wp2_with fail
        refine (HRC.out _).mono ?_
        rintro e w5 ⟨rfl, hk⟩
        have H5 := Lib.hid (H4.out.to hk)
        clear hk
        have m0 := obj_cell H5.out.s.hm 0
        have m1 := obj_cell H5.out.s.hm 1
        have m2 := obj_cell H5.out.s.hm 2
        have m3 := obj_cell H5.out.s.hm 3
        have c0 := obj_cell H5.out.s.hc 0
        have c1 := obj_cell H5.out.s.hc 1
        have c2 := obj_cell H5.out.s.hc 2
        have c3 := obj_cell H5.out.s.hc 3
        have c4 := obj_cell H5.out.s.hc 4
        have v0 := obj_cell H5.out.hw 0
        have v1 := obj_cell H5.out.hw 1
        have v2 := obj_cell H5.out.hw 2
        have v3 := obj_cell H5.out.hw 3
        have n0 := obj_cell H5.out.hx 0
        have n1 := obj_cell H5.out.hx 1
        have n2 := obj_cell H5.out.hx 2
        have n3 := obj_cell H5.out.hx 3
        have n4 := obj_cell H5.out.hx 4
        have y0 := obj_free H5.out.hx 0
        have y1 := obj_free H5.out.hx 1
        have y2 := obj_free H5.out.hx 2
        have y3 := obj_free H5.out.hx 3
        have y4 := obj_free H5.out.hx 4
        go_wp2_with fail
        refine (HRM.out _).mono ?_
        rintro e w6 ⟨rfl, hk⟩
        have H6 := Lib.hid (H5.out.to hk)
        clear hk
        have m0 := obj_cell H6.out.s.hm 0
        have m1 := obj_cell H6.out.s.hm 1
        have m2 := obj_cell H6.out.s.hm 2
        have m3 := obj_cell H6.out.s.hm 3
        have c0 := obj_cell H6.out.s.hc 0
        have c1 := obj_cell H6.out.s.hc 1
        have c2 := obj_cell H6.out.s.hc 2
        have c3 := obj_cell H6.out.s.hc 3
        have c4 := obj_cell H6.out.s.hc 4
        have v0 := obj_cell H6.out.hw 0
        have v1 := obj_cell H6.out.hw 1
        have v2 := obj_cell H6.out.hw 2
        have v3 := obj_cell H6.out.hw 3
        have n0 := obj_cell H6.out.hx 0
        have n1 := obj_cell H6.out.hx 1
        have n2 := obj_cell H6.out.hx 2
        have n3 := obj_cell H6.out.hx 3
        have n4 := obj_cell H6.out.hx 4
        have y0 := obj_free H6.out.hx 0
        have y1 := obj_free H6.out.hx 1
        have y2 := obj_free H6.out.hx 2
        have y3 := obj_free H6.out.hx 3
        have y4 := obj_free H6.out.hx 4
        obtain ⟨wq, hwq⟩ : ∃ wq, (((((w6.setCell ⟨w2.heap.size + 1, 0, none⟩ (.int .i64 e)).setCell ⟨w2.heap.size + 1, 1, none⟩ (.int .i64 f)).setCell ⟨w2.heap.size + 1, 2, none⟩ (.int .i64 h)).setCell ⟨w2.heap.size + 1, 3, none⟩ (.int .i64 i)).setCell ⟨w2.heap.size + 1, 4, none⟩ (.int .i64 L)) = wq := ⟨_, rfl⟩
        have HZ := Lib.hid (show SP #[.int .i64 a, .int .i64 b, .int .i64 c, .int .i64 d] #[.int .i64 x, .int .i64 y, .int .i64 z, .int .i64 u, .int .i64 g] #[.int .i64 p, .int .i64 q, .int .i64 r, .int .i64 t] #[.int .i64 e, .int .i64 f, .int .i64 h, .int .i64 i, .int .i64 L] w w2.heap.size wq by
          rw [← hwq]
          exact (((((H6.out.put 0 (.int .i64 e)).put 1 (.int .i64 f)).put 2 (.int .i64 h)).put 3 (.int .i64 i)).put 4 (.int .i64 L)))
        go_wp2_with fail
        have m0 := obj_cell HZ.out.s.hm 0
        have m1 := obj_cell HZ.out.s.hm 1
        have m2 := obj_cell HZ.out.s.hm 2
        have m3 := obj_cell HZ.out.s.hm 3
        have c0 := obj_cell HZ.out.s.hc 0
        have c1 := obj_cell HZ.out.s.hc 1
        have c2 := obj_cell HZ.out.s.hc 2
        have c3 := obj_cell HZ.out.s.hc 3
        have c4 := obj_cell HZ.out.s.hc 4
        have v0 := obj_cell HZ.out.hw 0
        have v1 := obj_cell HZ.out.hw 1
        have v2 := obj_cell HZ.out.hw 2
        have v3 := obj_cell HZ.out.hw 3
        have n0 := obj_cell HZ.out.hx 0
        have n1 := obj_cell HZ.out.hx 1
        have n2 := obj_cell HZ.out.hx 2
        have n3 := obj_cell HZ.out.hx 3
        have n4 := obj_cell HZ.out.hx 4
        go_region_held3 (fun w' => w'.cell? ⟨w.heap.size, 0, none⟩ = some (.int .i64 a) ∧ w'.cell? ⟨w.heap.size, 1, none⟩ = some (.int .i64 b) ∧ w'.cell? ⟨w.heap.size, 2, none⟩ = some (.int .i64 c) ∧ w'.cell? ⟨w.heap.size, 3, none⟩ = some (.int .i64 d) ∧ w'.cell? ⟨w.heap.size + 1, 0, none⟩ = some (.int .i64 x) ∧ w'.cell? ⟨w.heap.size + 1, 1, none⟩ = some (.int .i64 y) ∧ w'.cell? ⟨w.heap.size + 1, 2, none⟩ = some (.int .i64 z) ∧ w'.cell? ⟨w.heap.size + 1, 3, none⟩ = some (.int .i64 u) ∧ w'.cell? ⟨w.heap.size + 1, 4, none⟩ = some (.int .i64 g) ∧ w'.cell? ⟨w2.heap.size, 0, none⟩ = some (.int .i64 p) ∧ w'.cell? ⟨w2.heap.size, 1, none⟩ = some (.int .i64 q) ∧ w'.cell? ⟨w2.heap.size, 2, none⟩ = some (.int .i64 r) ∧ w'.cell? ⟨w2.heap.size, 3, none⟩ = some (.int .i64 t) ∧ w'.cell? ⟨w2.heap.size + 1, 0, none⟩ = some (.int .i64 (e)) ∧ w'.cell? ⟨w2.heap.size + 1, 1, none⟩ = some (.int .i64 (f)) ∧ w'.cell? ⟨w2.heap.size + 1, 2, none⟩ = some (.int .i64 (h)) ∧ w'.cell? ⟨w2.heap.size + 1, 3, none⟩ = some (.int .i64 (i)) ∧ w'.cell? ⟨w2.heap.size + 1, 4, none⟩ = some (.int .i64 (L))) (first | go_keep | exact ⟨m0, m1, m2, m3, c0, c1, c2, c3, c4, v0, v1, v2, v3, n0, n1, n2, n3, n4⟩)
          (first | (go_at_call 20; refine (HSELF.out _).mono ?_; rintro e wz ⟨rfl, hk⟩; have m0 := hk.cell m0 (not_no _); have m1 := hk.cell m1 (not_no _); have m2 := hk.cell m2 (not_no _); have m3 := hk.cell m3 (not_no _); have c0 := hk.cell c0 (not_no _); have c1 := hk.cell c1 (not_no _); have c2 := hk.cell c2 (not_no _); have c3 := hk.cell c3 (not_no _); have c4 := hk.cell c4 (not_no _); have v0 := hk.cell v0 (not_no _); have v1 := hk.cell v1 (not_no _); have v2 := hk.cell v2 (not_no _); have v3 := hk.cell v3 (not_no _); have n0 := hk.cell n0 (not_no _); have n1 := hk.cell n1 (not_no _); have n2 := hk.cell n2 (not_no _); have n3 := hk.cell n3 (not_no _); have n4 := hk.cell n4 (not_no _); have HZ := Lib.hid (HZ.out.to (by first | exact hk | exact hk.of_drew)); clear hk) | (go_at_call 21; refine (HCA.out _).mono ?_; rintro e wz ⟨rfl, hk⟩; have m0 := hk.cell m0 (not_no _); have m1 := hk.cell m1 (not_no _); have m2 := hk.cell m2 (not_no _); have m3 := hk.cell m3 (not_no _); have c0 := hk.cell c0 (not_no _); have c1 := hk.cell c1 (not_no _); have c2 := hk.cell c2 (not_no _); have c3 := hk.cell c3 (not_no _); have c4 := hk.cell c4 (not_no _); have v0 := hk.cell v0 (not_no _); have v1 := hk.cell v1 (not_no _); have v2 := hk.cell v2 (not_no _); have v3 := hk.cell v3 (not_no _); have n0 := hk.cell n0 (not_no _); have n1 := hk.cell n1 (not_no _); have n2 := hk.cell n2 (not_no _); have n3 := hk.cell n3 (not_no _); have n4 := hk.cell n4 (not_no _); have HZ := Lib.hid (HZ.out.to (by first | exact hk | exact hk.of_drew)); clear hk) | (go_at_call 22; refine (HMI.out _).mono ?_; rintro e wz ⟨rfl, hk⟩; have m0 := hk.cell m0 (not_no _); have m1 := hk.cell m1 (not_no _); have m2 := hk.cell m2 (not_no _); have m3 := hk.cell m3 (not_no _); have c0 := hk.cell c0 (not_no _); have c1 := hk.cell c1 (not_no _); have c2 := hk.cell c2 (not_no _); have c3 := hk.cell c3 (not_no _); have c4 := hk.cell c4 (not_no _); have v0 := hk.cell v0 (not_no _); have v1 := hk.cell v1 (not_no _); have v2 := hk.cell v2 (not_no _); have v3 := hk.cell v3 (not_no _); have n0 := hk.cell n0 (not_no _); have n1 := hk.cell n1 (not_no _); have n2 := hk.cell n2 (not_no _); have n3 := hk.cell n3 (not_no _); have n4 := hk.cell n4 (not_no _); have HZ := Lib.hid (HZ.out.to (by first | exact hk | exact hk.of_drew)); clear hk) | (go_at_call 17; refine (known_any _ ?_).mono ?_; (exact HE.out.kept HZ.out.s.kept); rintro e wz ⟨rfl, hk⟩; have m0 := hk.cell m0 (not_no _); have m1 := hk.cell m1 (not_no _); have m2 := hk.cell m2 (not_no _); have m3 := hk.cell m3 (not_no _); have c0 := hk.cell c0 (not_no _); have c1 := hk.cell c1 (not_no _); have c2 := hk.cell c2 (not_no _); have c3 := hk.cell c3 (not_no _); have c4 := hk.cell c4 (not_no _); have v0 := hk.cell v0 (not_no _); have v1 := hk.cell v1 (not_no _); have v2 := hk.cell v2 (not_no _); have v3 := hk.cell v3 (not_no _); have n0 := hk.cell n0 (not_no _); have n1 := hk.cell n1 (not_no _); have n2 := hk.cell n2 (not_no _); have n3 := hk.cell n3 (not_no _); have n4 := hk.cell n4 (not_no _); have HZ := Lib.hid (HZ.out.to (by first | exact hk | exact hk.of_drew)); clear hk))
        all_goals go_wp2_with fail
        all_goals go_ret
        all_goals exact ⟨rfl, HZ.out.s.kept⟩
      · have hcan : canB a b c d x y z u g = true := by exact hc
        have hpe : payE a b c d x y z u g = 0 := by simp [payE, hi, hj, hc]
        obtain ⟨⟨p, q, r, t⟩, hM⟩ : ∃ v, payM a b c d x y z u g = v := ⟨_, rfl⟩
        have HRP := Lib.hid (fun W => rpay_any a b c d x y z u g W)
        rw [hM, hpe] at HRP
        have HSELF := Lib.hid (fun W => k_payself a b c d x y z u g hM hpe W)
        have HRV := Lib.hid (fun W => (show Calls Tryd.prog 8 #[.agg #[.int .i64 a, .int .i64 b, .int .i64 c, .int .i64 d]] W fun e w' => e = .returned (.bool true) ∧ Kept No W w' from hi ▸ rvalid_any a b c d W))
        have HRC := Lib.hid (fun W => (show Calls Tryd.prog 10 #[.agg #[.int .i64 x, .int .i64 y, .int .i64 z, .int .i64 u, .int .i64 g]] W fun e w' => e = .returned (.bool true) ∧ Kept No W w' from hj ▸ rvalidCost_any x y z u g W))
        have HRM := Lib.hid (fun W => rmiss_ok a b c d x y z u g W hi hj)
        have HCA := Lib.hid (fun W => (show Calls Tryd.prog 21 #[.agg #[.int .i64 a, .int .i64 b, .int .i64 c, .int .i64 d], .agg #[.int .i64 x, .int .i64 y, .int .i64 z, .int .i64 u, .int .i64 g]] W fun e w' => e = .returned (.bool true) ∧ Kept No W w' from hcan ▸ can_any a b c d x y z u g W))
        have hms : missM a b c d x y z u g = ⟨⟨mis x a, mis y b, mis z c, mis u d⟩, lack ⟨x, y, z, u⟩ ⟨a, b, c, d⟩ g⟩ := by simp [missM, misM, hi, hj]
        have HMI := Lib.hid (fun W => miss_any a b c d x y z u g W)
        rw [hms] at HMI
        obtain ⟨e, hee⟩ : ∃ v, mis x a = v := ⟨_, rfl⟩
        obtain ⟨f, hff⟩ : ∃ v, mis y b = v := ⟨_, rfl⟩
        obtain ⟨h, hhh⟩ : ∃ v, mis z c = v := ⟨_, rfl⟩
        obtain ⟨i, hii⟩ : ∃ v, mis u d = v := ⟨_, rfl⟩
        obtain ⟨L, hLL⟩ : ∃ v, lack ⟨x, y, z, u⟩ ⟨a, b, c, d⟩ g = v := ⟨_, rfl⟩
        rw [hee, hff, hhh, hii, hLL] at HMI HRM
        clear hee hff hhh hii hLL
        have heq : ∀ W, Sem.run Tryd.prog (binOp .eql 25 (.agg #[.int .i64 e, .int .i64 f, .int .i64 h, .int .i64 i, .int .i64 L]) (.agg #[.int .i64 e, .int .i64 f, .int .i64 h, .int .i64 i, .int .i64 L])) W = .ok (.bool true) W := fun W => by rw [eql5, q5_self]
        clear hi hj hc hcan hpe hM hms
        go_enter Tryd.func4, Tryd.ntmps4
        go_wp2_with fail
        refine (HRP.out _).mono ?_
        rintro e w2 ⟨rfl, hk⟩
        obtain ⟨w3, hw3⟩ : ∃ w3, (w2.alloc (.cells #[.int .i64 p, .int .i64 q, .int .i64 r, .int .i64 t] 23)).alloc (.cells #[.int .i64 0, .int .i64 0, .int .i64 0, .int .i64 0, .int .i64 0] 25) = w3 := ⟨_, rfl⟩
        have H3 := Lib.hid (show SP #[.int .i64 a, .int .i64 b, .int .i64 c, .int .i64 d] #[.int .i64 x, .int .i64 y, .int .i64 z, .int .i64 u, .int .i64 g] #[.int .i64 p, .int .i64 q, .int .i64 r, .int .i64 t] #[.int .i64 0, .int .i64 0, .int .i64 0, .int .i64 0, .int .i64 0] w w2.heap.size w3 by
          rw [← hw3]
          exact ⟨((H1.out.to hk).to ((Kept.refl No w2).alloc _)).to ((Kept.refl No _).alloc _), obj_alloc (heap_alloc_new w2 _) _, World.alloc_at (by simp) _, obj_lt (hk.obj H1.out.hc (not_no _))⟩)
        clear hk
        have m0 := obj_cell H3.out.s.hm 0
        have m1 := obj_cell H3.out.s.hm 1
        have m2 := obj_cell H3.out.s.hm 2
        have m3 := obj_cell H3.out.s.hm 3
        have c0 := obj_cell H3.out.s.hc 0
        have c1 := obj_cell H3.out.s.hc 1
        have c2 := obj_cell H3.out.s.hc 2
        have c3 := obj_cell H3.out.s.hc 3
        have c4 := obj_cell H3.out.s.hc 4
        have v0 := obj_cell H3.out.hw 0
        have v1 := obj_cell H3.out.hw 1
        have v2 := obj_cell H3.out.hw 2
        have v3 := obj_cell H3.out.hw 3
        have n0 := obj_cell H3.out.hx 0
        have n1 := obj_cell H3.out.hx 1
        have n2 := obj_cell H3.out.hx 2
        have n3 := obj_cell H3.out.hx 3
        have n4 := obj_cell H3.out.hx 4
        go_wp2_with fail
        refine (HRV.out _).mono ?_
        rintro e w4 ⟨rfl, hk⟩
        have H4 := Lib.hid (H3.out.to hk)
        clear hk
        have m0 := obj_cell H4.out.s.hm 0
        have m1 := obj_cell H4.out.s.hm 1
        have m2 := obj_cell H4.out.s.hm 2
        have m3 := obj_cell H4.out.s.hm 3
        have c0 := obj_cell H4.out.s.hc 0
        have c1 := obj_cell H4.out.s.hc 1
        have c2 := obj_cell H4.out.s.hc 2
        have c3 := obj_cell H4.out.s.hc 3
        have c4 := obj_cell H4.out.s.hc 4
        have v0 := obj_cell H4.out.hw 0
        have v1 := obj_cell H4.out.hw 1
        have v2 := obj_cell H4.out.hw 2
        have v3 := obj_cell H4.out.hw 3
        have n0 := obj_cell H4.out.hx 0
        have n1 := obj_cell H4.out.hx 1
        have n2 := obj_cell H4.out.hx 2
        have n3 := obj_cell H4.out.hx 3
        have n4 := obj_cell H4.out.hx 4
        go_wp2_with fail
        refine (HRC.out _).mono ?_
        rintro e w5 ⟨rfl, hk⟩
        have H5 := Lib.hid (H4.out.to hk)
        clear hk
        have m0 := obj_cell H5.out.s.hm 0
        have m1 := obj_cell H5.out.s.hm 1
        have m2 := obj_cell H5.out.s.hm 2
        have m3 := obj_cell H5.out.s.hm 3
        have c0 := obj_cell H5.out.s.hc 0
        have c1 := obj_cell H5.out.s.hc 1
        have c2 := obj_cell H5.out.s.hc 2
        have c3 := obj_cell H5.out.s.hc 3
        have c4 := obj_cell H5.out.s.hc 4
        have v0 := obj_cell H5.out.hw 0
        have v1 := obj_cell H5.out.hw 1
        have v2 := obj_cell H5.out.hw 2
        have v3 := obj_cell H5.out.hw 3
        have n0 := obj_cell H5.out.hx 0
        have n1 := obj_cell H5.out.hx 1
        have n2 := obj_cell H5.out.hx 2
        have n3 := obj_cell H5.out.hx 3
        have n4 := obj_cell H5.out.hx 4
        have y0 := obj_free H5.out.hx 0
        have y1 := obj_free H5.out.hx 1
        have y2 := obj_free H5.out.hx 2
        have y3 := obj_free H5.out.hx 3
        have y4 := obj_free H5.out.hx 4
        go_wp2_with fail
        refine (HRM.out _).mono ?_
        rintro e w6 ⟨rfl, hk⟩
        have H6 := Lib.hid (H5.out.to hk)
        clear hk
        have m0 := obj_cell H6.out.s.hm 0
        have m1 := obj_cell H6.out.s.hm 1
        have m2 := obj_cell H6.out.s.hm 2
        have m3 := obj_cell H6.out.s.hm 3
        have c0 := obj_cell H6.out.s.hc 0
        have c1 := obj_cell H6.out.s.hc 1
        have c2 := obj_cell H6.out.s.hc 2
        have c3 := obj_cell H6.out.s.hc 3
        have c4 := obj_cell H6.out.s.hc 4
        have v0 := obj_cell H6.out.hw 0
        have v1 := obj_cell H6.out.hw 1
        have v2 := obj_cell H6.out.hw 2
        have v3 := obj_cell H6.out.hw 3
        have n0 := obj_cell H6.out.hx 0
        have n1 := obj_cell H6.out.hx 1
        have n2 := obj_cell H6.out.hx 2
        have n3 := obj_cell H6.out.hx 3
        have n4 := obj_cell H6.out.hx 4
        have y0 := obj_free H6.out.hx 0
        have y1 := obj_free H6.out.hx 1
        have y2 := obj_free H6.out.hx 2
        have y3 := obj_free H6.out.hx 3
        have y4 := obj_free H6.out.hx 4
        obtain ⟨wq, hwq⟩ : ∃ wq, (((((w6.setCell ⟨w2.heap.size + 1, 0, none⟩ (.int .i64 e)).setCell ⟨w2.heap.size + 1, 1, none⟩ (.int .i64 f)).setCell ⟨w2.heap.size + 1, 2, none⟩ (.int .i64 h)).setCell ⟨w2.heap.size + 1, 3, none⟩ (.int .i64 i)).setCell ⟨w2.heap.size + 1, 4, none⟩ (.int .i64 L)) = wq := ⟨_, rfl⟩
        have HZ := Lib.hid (show SP #[.int .i64 a, .int .i64 b, .int .i64 c, .int .i64 d] #[.int .i64 x, .int .i64 y, .int .i64 z, .int .i64 u, .int .i64 g] #[.int .i64 p, .int .i64 q, .int .i64 r, .int .i64 t] #[.int .i64 e, .int .i64 f, .int .i64 h, .int .i64 i, .int .i64 L] w w2.heap.size wq by
          rw [← hwq]
          exact (((((H6.out.put 0 (.int .i64 e)).put 1 (.int .i64 f)).put 2 (.int .i64 h)).put 3 (.int .i64 i)).put 4 (.int .i64 L)))
        go_wp2_with fail
        have m0 := obj_cell HZ.out.s.hm 0
        have m1 := obj_cell HZ.out.s.hm 1
        have m2 := obj_cell HZ.out.s.hm 2
        have m3 := obj_cell HZ.out.s.hm 3
        have c0 := obj_cell HZ.out.s.hc 0
        have c1 := obj_cell HZ.out.s.hc 1
        have c2 := obj_cell HZ.out.s.hc 2
        have c3 := obj_cell HZ.out.s.hc 3
        have c4 := obj_cell HZ.out.s.hc 4
        have v0 := obj_cell HZ.out.hw 0
        have v1 := obj_cell HZ.out.hw 1
        have v2 := obj_cell HZ.out.hw 2
        have v3 := obj_cell HZ.out.hw 3
        have n0 := obj_cell HZ.out.hx 0
        have n1 := obj_cell HZ.out.hx 1
        have n2 := obj_cell HZ.out.hx 2
        have n3 := obj_cell HZ.out.hx 3
        have n4 := obj_cell HZ.out.hx 4
        go_region_held3 (fun w' => w'.cell? ⟨w.heap.size, 0, none⟩ = some (.int .i64 a) ∧ w'.cell? ⟨w.heap.size, 1, none⟩ = some (.int .i64 b) ∧ w'.cell? ⟨w.heap.size, 2, none⟩ = some (.int .i64 c) ∧ w'.cell? ⟨w.heap.size, 3, none⟩ = some (.int .i64 d) ∧ w'.cell? ⟨w.heap.size + 1, 0, none⟩ = some (.int .i64 x) ∧ w'.cell? ⟨w.heap.size + 1, 1, none⟩ = some (.int .i64 y) ∧ w'.cell? ⟨w.heap.size + 1, 2, none⟩ = some (.int .i64 z) ∧ w'.cell? ⟨w.heap.size + 1, 3, none⟩ = some (.int .i64 u) ∧ w'.cell? ⟨w.heap.size + 1, 4, none⟩ = some (.int .i64 g) ∧ w'.cell? ⟨w2.heap.size, 0, none⟩ = some (.int .i64 p) ∧ w'.cell? ⟨w2.heap.size, 1, none⟩ = some (.int .i64 q) ∧ w'.cell? ⟨w2.heap.size, 2, none⟩ = some (.int .i64 r) ∧ w'.cell? ⟨w2.heap.size, 3, none⟩ = some (.int .i64 t) ∧ w'.cell? ⟨w2.heap.size + 1, 0, none⟩ = some (.int .i64 (e)) ∧ w'.cell? ⟨w2.heap.size + 1, 1, none⟩ = some (.int .i64 (f)) ∧ w'.cell? ⟨w2.heap.size + 1, 2, none⟩ = some (.int .i64 (h)) ∧ w'.cell? ⟨w2.heap.size + 1, 3, none⟩ = some (.int .i64 (i)) ∧ w'.cell? ⟨w2.heap.size + 1, 4, none⟩ = some (.int .i64 (L))) (first | go_keep | exact ⟨m0, m1, m2, m3, c0, c1, c2, c3, c4, v0, v1, v2, v3, n0, n1, n2, n3, n4⟩)
          (first | (go_at_call 20; refine (HSELF.out _).mono ?_; rintro e wz ⟨rfl, hk⟩; have m0 := hk.cell m0 (not_no _); have m1 := hk.cell m1 (not_no _); have m2 := hk.cell m2 (not_no _); have m3 := hk.cell m3 (not_no _); have c0 := hk.cell c0 (not_no _); have c1 := hk.cell c1 (not_no _); have c2 := hk.cell c2 (not_no _); have c3 := hk.cell c3 (not_no _); have c4 := hk.cell c4 (not_no _); have v0 := hk.cell v0 (not_no _); have v1 := hk.cell v1 (not_no _); have v2 := hk.cell v2 (not_no _); have v3 := hk.cell v3 (not_no _); have n0 := hk.cell n0 (not_no _); have n1 := hk.cell n1 (not_no _); have n2 := hk.cell n2 (not_no _); have n3 := hk.cell n3 (not_no _); have n4 := hk.cell n4 (not_no _); have HZ := Lib.hid (HZ.out.to (by first | exact hk | exact hk.of_drew)); clear hk) | (go_at_call 21; refine (HCA.out _).mono ?_; rintro e wz ⟨rfl, hk⟩; have m0 := hk.cell m0 (not_no _); have m1 := hk.cell m1 (not_no _); have m2 := hk.cell m2 (not_no _); have m3 := hk.cell m3 (not_no _); have c0 := hk.cell c0 (not_no _); have c1 := hk.cell c1 (not_no _); have c2 := hk.cell c2 (not_no _); have c3 := hk.cell c3 (not_no _); have c4 := hk.cell c4 (not_no _); have v0 := hk.cell v0 (not_no _); have v1 := hk.cell v1 (not_no _); have v2 := hk.cell v2 (not_no _); have v3 := hk.cell v3 (not_no _); have n0 := hk.cell n0 (not_no _); have n1 := hk.cell n1 (not_no _); have n2 := hk.cell n2 (not_no _); have n3 := hk.cell n3 (not_no _); have n4 := hk.cell n4 (not_no _); have HZ := Lib.hid (HZ.out.to (by first | exact hk | exact hk.of_drew)); clear hk) | (go_at_call 22; refine (HMI.out _).mono ?_; rintro e wz ⟨rfl, hk⟩; have m0 := hk.cell m0 (not_no _); have m1 := hk.cell m1 (not_no _); have m2 := hk.cell m2 (not_no _); have m3 := hk.cell m3 (not_no _); have c0 := hk.cell c0 (not_no _); have c1 := hk.cell c1 (not_no _); have c2 := hk.cell c2 (not_no _); have c3 := hk.cell c3 (not_no _); have c4 := hk.cell c4 (not_no _); have v0 := hk.cell v0 (not_no _); have v1 := hk.cell v1 (not_no _); have v2 := hk.cell v2 (not_no _); have v3 := hk.cell v3 (not_no _); have n0 := hk.cell n0 (not_no _); have n1 := hk.cell n1 (not_no _); have n2 := hk.cell n2 (not_no _); have n3 := hk.cell n3 (not_no _); have n4 := hk.cell n4 (not_no _); have HZ := Lib.hid (HZ.out.to (by first | exact hk | exact hk.of_drew)); clear hk) | (go_at_call 17; refine (known_any _ ?_).mono ?_; (exact HE.out.kept HZ.out.s.kept); rintro e wz ⟨rfl, hk⟩; have m0 := hk.cell m0 (not_no _); have m1 := hk.cell m1 (not_no _); have m2 := hk.cell m2 (not_no _); have m3 := hk.cell m3 (not_no _); have c0 := hk.cell c0 (not_no _); have c1 := hk.cell c1 (not_no _); have c2 := hk.cell c2 (not_no _); have c3 := hk.cell c3 (not_no _); have c4 := hk.cell c4 (not_no _); have v0 := hk.cell v0 (not_no _); have v1 := hk.cell v1 (not_no _); have v2 := hk.cell v2 (not_no _); have v3 := hk.cell v3 (not_no _); have n0 := hk.cell n0 (not_no _); have n1 := hk.cell n1 (not_no _); have n2 := hk.cell n2 (not_no _); have n3 := hk.cell n3 (not_no _); have n4 := hk.cell n4 (not_no _); have HZ := Lib.hid (HZ.out.to (by first | exact hk | exact hk.of_drew)); clear hk))
        all_goals go_wp2_with fail
        all_goals go_ret
        all_goals exact ⟨rfl, HZ.out.s.kept⟩
end Go.Proofs.YtgnnhigheljnkacDoor
