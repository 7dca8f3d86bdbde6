/-
  Mana: the walk of ManaSums.
-/
import Derived.Test.YtogfjegedfaekaaDoorWalkX
set_option linter.unusedVariables false
set_option linter.unusedSimpArgs false
namespace Go.Proofs.YtogfjegedfaekaaDoor
open Go.RowKit Go.Zn Go.Zm
attribute [local go_sem] Oper.semAt_some

theorem k_addself (a b c d k n : Int) (hn1 : n ≤ 9223372036854775807) {p q r t m : Int} (hM : addM a b c d k n = ⟨p, q, r, t⟩) (hE : addE a b c d k n = m) (W : World) : Calls Tryd.prog 16 #[.agg #[.int .i64 a, .int .i64 b, .int .i64 c, .int .i64 d], .int .i64 k, .int .i64 n, .agg #[.int .i64 p, .int .i64 q, .int .i64 r, .int .i64 t], .int .i64 m] W fun e w' => e = .returned (.bool true) ∧ Kept No W w' :=
  (adds_any a b c d k n p q r t m W hn1).mono fun e w' ⟨he, hk⟩ => ⟨he.trans (by rw [hM, hE, q4_self]; simp), hk⟩
structure S2 (A C : Array Value) (w0 wr : World) : Prop where
  hm : wr.heap[w0.heap.size]? = some (.cells A 23 (0, 0))
  hc : wr.heap[w0.heap.size + 1]? = some (.cells C 25 (0, 0))
  kept : Kept No w0 wr
theorem S2.to {A C : Array Value} {w0 wr w' : World} (h : S2 A C w0 wr) (hk : Kept No wr w') : S2 A C w0 w' := ⟨hk.obj h.hm (not_no _), hk.obj h.hc (not_no _), h.kept.and hk⟩
theorem S2.start {A C : Array Value} (w : World) : S2 A C w ((w.alloc (.cells A 23)).alloc (.cells C 25)) := ⟨obj_alloc (heap_alloc_new w _) _, World.alloc_at (by simp) _, ((Kept.refl No w).alloc _).alloc _⟩
structure SW (A C B : Array Value) (t : TypeId) (w0 : World) (g : Nat) (wr : World) : Prop where
  s : S2 A C w0 wr
  hw : wr.heap[g]? = some (.cells B t (0, 0))
theorem SW.to {A C B : Array Value} {t : TypeId} {w0 wr w' : World} {g : Nat} (h : SW A C B t w0 g wr) (hk : Kept No wr w') : SW A C B t w0 g w' := ⟨h.s.to hk, hk.obj h.hw (not_no _)⟩
set_option maxRecDepth 100000 in
set_option maxHeartbeats 8000000 in
theorem walk_sums (a b c d x y z u g k n : Int) (w : World) (hn1 : n ≤ 9223372036854775807) (hE : Errs w) : Calls Tryd.prog 3 #[.agg #[.int .i64 a, .int .i64 b, .int .i64 c, .int .i64 d], .agg #[.int .i64 x, .int .i64 y, .int .i64 z, .int .i64 u, .int .i64 g], .int .i64 k, .int .i64 n] w fun e w' => e = .returned (.bool true) ∧ Kept No w w' := by
  obtain ⟨⟨p, q, r, t⟩, hM⟩ : ∃ v, addM a b c d k n = v := ⟨_, rfl⟩
  obtain ⟨m, hm⟩ : ∃ v, addE a b c d k n = v := ⟨_, rfl⟩
  have HAD := Lib.hid (fun W => radd_any a b c d k n W hn1)
  rw [hM, hm] at HAD
  have HSELF := Lib.hid (fun W => k_addself a b c d k n hn1 hM hm W)
  have HE := Lib.hid hE
  clear hM hm hE hn1
  obtain ⟨w1, hw1⟩ : ∃ w1, (w.alloc (.cells #[.int .i64 a, .int .i64 b, .int .i64 c, .int .i64 d] 23)).alloc (.cells #[.int .i64 x, .int .i64 y, .int .i64 z, .int .i64 u, .int .i64 g] 25) = w1 := ⟨_, rfl⟩
  have H1 := Lib.hid (show S2 #[.int .i64 a, .int .i64 b, .int .i64 c, .int .i64 d] #[.int .i64 x, .int .i64 y, .int .i64 z, .int .i64 u, .int .i64 g] w w1 by rw [← hw1]; exact S2.start w)
  have m0 := obj_cell H1.out.hm 0
  have m1 := obj_cell H1.out.hm 1
  have m2 := obj_cell H1.out.hm 2
  have m3 := obj_cell H1.out.hm 3
  have c0 := obj_cell H1.out.hc 0
  have c1 := obj_cell H1.out.hc 1
  have c2 := obj_cell H1.out.hc 2
  have c3 := obj_cell H1.out.hc 3
  have c4 := obj_cell H1.out.hc 4
  cases hi : in4 99 a b c d
  · cases hj : cost x y z u g
    · have HRV := Lib.hid (fun W => (show Calls Tryd.prog 8 #[.agg #[.int .i64 a, .int .i64 b, .int .i64 c, .int .i64 d]] W fun e w' => e = .returned (.bool false) ∧ Kept No W w' from hi ▸ rvalid_any a b c d W))
      have HMV := Lib.hid (fun W => (show Calls Tryd.prog 12 #[.agg #[.int .i64 a, .int .i64 b, .int .i64 c, .int .i64 d]] W fun e w' => e = .returned (.bool false) ∧ Kept No W w' from hi ▸ valid_any a b c d W))
      have HRC := Lib.hid (fun W => (show Calls Tryd.prog 10 #[.agg #[.int .i64 x, .int .i64 y, .int .i64 z, .int .i64 u, .int .i64 g]] W fun e w' => e = .returned (.bool false) ∧ Kept No W w' from hj ▸ rvalidCost_any x y z u g W))
      have HMC := Lib.hid (fun W => (show Calls Tryd.prog 13 #[.agg #[.int .i64 x, .int .i64 y, .int .i64 z, .int .i64 u, .int .i64 g]] W fun e w' => e = .returned (.bool false) ∧ Kept No W w' from hj ▸ validCost_any x y z u g W))
      have HTO := Lib.hid (fun W => (show Calls Tryd.prog 14 #[.agg #[.int .i64 a, .int .i64 b, .int .i64 c, .int .i64 d]] W fun e w' => e = .returned (.int .i64 (0)) ∧ Kept No W w' from (total_any a b c d W).mono fun e w' ⟨he, hk⟩ => ⟨he.trans (by unfold tot; rw [hi]; rfl), hk⟩))
      have HVA := Lib.hid (fun W => (show Calls Tryd.prog 15 #[.agg #[.int .i64 x, .int .i64 y, .int .i64 z, .int .i64 u, .int .i64 g]] W fun e w' => e = .returned (.int .i64 (0)) ∧ Kept No W w' from (value_any x y z u g W).mono fun e w' ⟨he, hk⟩ => ⟨he.trans (by unfold val; rw [hj]; rfl), hk⟩))
      clear hi hj
      go_enter Tryd.func3, Tryd.ntmps3
      go_wp2_with fail
      refine (HRV.out _).mono ?_
      rintro e w2 ⟨rfl, hk⟩
      have H2 := Lib.hid (H1.out.to hk)
      clear hk
      have m0 := obj_cell H2.out.hm 0
      have m1 := obj_cell H2.out.hm 1
      have m2 := obj_cell H2.out.hm 2
      have m3 := obj_cell H2.out.hm 3
      have c0 := obj_cell H2.out.hc 0
      have c1 := obj_cell H2.out.hc 1
      have c2 := obj_cell H2.out.hc 2
      have c3 := obj_cell H2.out.hc 3
      have c4 := obj_cell H2.out.hc 4
      go_wp2_with fail
      refine (HRC.out _).mono ?_
      rintro e w3 ⟨rfl, hk⟩
      have H3 := Lib.hid (H2.out.to hk)
      clear hk
      have m0 := obj_cell H3.out.hm 0
      have m1 := obj_cell H3.out.hm 1
      have m2 := obj_cell H3.out.hm 2
      have m3 := obj_cell H3.out.hm 3
      have c0 := obj_cell H3.out.hc 0
      have c1 := obj_cell H3.out.hc 1
      have c2 := obj_cell H3.out.hc 2
      have c3 := obj_cell H3.out.hc 3
      have c4 := obj_cell H3.out.hc 4
      go_wp2_with fail
      refine (HAD.out _).mono ?_
      rintro e w8 ⟨rfl, hk⟩
      obtain ⟨w9, hw9⟩ : ∃ w9, w8.alloc (.cells #[.int .i64 p, .int .i64 q, .int .i64 r, .int .i64 t] 23) = w9 := ⟨_, rfl⟩
      have HZ := Lib.hid (show SW #[.int .i64 a, .int .i64 b, .int .i64 c, .int .i64 d] #[.int .i64 x, .int .i64 y, .int .i64 z, .int .i64 u, .int .i64 g] #[.int .i64 p, .int .i64 q, .int .i64 r, .int .i64 t] 23 w w8.heap.size w9 by
        rw [← hw9]
        exact ⟨(H3.out.to hk).to ((Kept.refl No w8).alloc _), heap_alloc_new w8 _⟩)
      clear hk
      have m0 := obj_cell HZ.out.s.hm 0
      have m1 := obj_cell HZ.out.s.hm 1
      have m2 := obj_cell HZ.out.s.hm 2
      have m3 := obj_cell HZ.out.s.hm 3
      have c0 := obj_cell HZ.out.s.hc 0
      have c1 := obj_cell HZ.out.s.hc 1
      have c2 := obj_cell HZ.out.s.hc 2
      have c3 := obj_cell HZ.out.s.hc 3
      have c4 := obj_cell HZ.out.s.hc 4
      have v0 := obj_cell HZ.out.hw 0
      have v1 := obj_cell HZ.out.hw 1
      have v2 := obj_cell HZ.out.hw 2
      have v3 := obj_cell HZ.out.hw 3
      go_wp2_with fail
      go_region_held3 (fun w' => w'.cell? ⟨w.heap.size, 0, none⟩ = some (.int .i64 a) ∧ w'.cell? ⟨w.heap.size, 1, none⟩ = some (.int .i64 b) ∧ w'.cell? ⟨w.heap.size, 2, none⟩ = some (.int .i64 c) ∧ w'.cell? ⟨w.heap.size, 3, none⟩ = some (.int .i64 d) ∧ w'.cell? ⟨w.heap.size + 1, 0, none⟩ = some (.int .i64 x) ∧ w'.cell? ⟨w.heap.size + 1, 1, none⟩ = some (.int .i64 y) ∧ w'.cell? ⟨w.heap.size + 1, 2, none⟩ = some (.int .i64 z) ∧ w'.cell? ⟨w.heap.size + 1, 3, none⟩ = some (.int .i64 u) ∧ w'.cell? ⟨w.heap.size + 1, 4, none⟩ = some (.int .i64 g) ∧ w'.cell? ⟨w8.heap.size, 0, none⟩ = some (.int .i64 p) ∧ w'.cell? ⟨w8.heap.size, 1, none⟩ = some (.int .i64 q) ∧ w'.cell? ⟨w8.heap.size, 2, none⟩ = some (.int .i64 r) ∧ w'.cell? ⟨w8.heap.size, 3, none⟩ = some (.int .i64 t)) (first | go_keep | exact ⟨m0, m1, m2, m3, c0, c1, c2, c3, c4, v0, v1, v2, v3⟩)
        (first | (go_at_call 12; refine (HMV.out _).mono ?_; rintro e wz ⟨rfl, hk⟩; have m0 := hk.cell m0 (not_no _); have m1 := hk.cell m1 (not_no _); have m2 := hk.cell m2 (not_no _); have m3 := hk.cell m3 (not_no _); have c0 := hk.cell c0 (not_no _); have c1 := hk.cell c1 (not_no _); have c2 := hk.cell c2 (not_no _); have c3 := hk.cell c3 (not_no _); have c4 := hk.cell c4 (not_no _); have v0 := hk.cell v0 (not_no _); have v1 := hk.cell v1 (not_no _); have v2 := hk.cell v2 (not_no _); have v3 := hk.cell v3 (not_no _); have HZ := Lib.hid (HZ.out.to (by first | exact hk | exact hk.of_drew)); clear hk) | (go_at_call 8; refine (HRV.out _).mono ?_; rintro e wz ⟨rfl, hk⟩; have m0 := hk.cell m0 (not_no _); have m1 := hk.cell m1 (not_no _); have m2 := hk.cell m2 (not_no _); have m3 := hk.cell m3 (not_no _); have c0 := hk.cell c0 (not_no _); have c1 := hk.cell c1 (not_no _); have c2 := hk.cell c2 (not_no _); have c3 := hk.cell c3 (not_no _); have c4 := hk.cell c4 (not_no _); have v0 := hk.cell v0 (not_no _); have v1 := hk.cell v1 (not_no _); have v2 := hk.cell v2 (not_no _); have v3 := hk.cell v3 (not_no _); have HZ := Lib.hid (HZ.out.to (by first | exact hk | exact hk.of_drew)); clear hk) | (go_at_call 13; refine (HMC.out _).mono ?_; rintro e wz ⟨rfl, hk⟩; have m0 := hk.cell m0 (not_no _); have m1 := hk.cell m1 (not_no _); have m2 := hk.cell m2 (not_no _); have m3 := hk.cell m3 (not_no _); have c0 := hk.cell c0 (not_no _); have c1 := hk.cell c1 (not_no _); have c2 := hk.cell c2 (not_no _); have c3 := hk.cell c3 (not_no _); have c4 := hk.cell c4 (not_no _); have v0 := hk.cell v0 (not_no _); have v1 := hk.cell v1 (not_no _); have v2 := hk.cell v2 (not_no _); have v3 := hk.cell v3 (not_no _); have HZ := Lib.hid (HZ.out.to (by first | exact hk | exact hk.of_drew)); clear hk) | (go_at_call 10; refine (HRC.out _).mono ?_; rintro e wz ⟨rfl, hk⟩; have m0 := hk.cell m0 (not_no _); have m1 := hk.cell m1 (not_no _); have m2 := hk.cell m2 (not_no _); have m3 := hk.cell m3 (not_no _); have c0 := hk.cell c0 (not_no _); have c1 := hk.cell c1 (not_no _); have c2 := hk.cell c2 (not_no _); have c3 := hk.cell c3 (not_no _); have c4 := hk.cell c4 (not_no _); have v0 := hk.cell v0 (not_no _); have v1 := hk.cell v1 (not_no _); have v2 := hk.cell v2 (not_no _); have v3 := hk.cell v3 (not_no _); have HZ := Lib.hid (HZ.out.to (by first | exact hk | exact hk.of_drew)); clear hk) | (go_at_call 14; refine (HTO.out _).mono ?_; rintro e wz ⟨rfl, hk⟩; have m0 := hk.cell m0 (not_no _); have m1 := hk.cell m1 (not_no _); have m2 := hk.cell m2 (not_no _); have m3 := hk.cell m3 (not_no _); have c0 := hk.cell c0 (not_no _); have c1 := hk.cell c1 (not_no _); have c2 := hk.cell c2 (not_no _); have c3 := hk.cell c3 (not_no _); have c4 := hk.cell c4 (not_no _); have v0 := hk.cell v0 (not_no _); have v1 := hk.cell v1 (not_no _); have v2 := hk.cell v2 (not_no _); have v3 := hk.cell v3 (not_no _); have HZ := Lib.hid (HZ.out.to (by first | exact hk | exact hk.of_drew)); clear hk) | (go_at_call 15; refine (HVA.out _).mono ?_; rintro e wz ⟨rfl, hk⟩; have m0 := hk.cell m0 (not_no _); have m1 := hk.cell m1 (not_no _); have m2 := hk.cell m2 (not_no _); have m3 := hk.cell m3 (not_no _); have c0 := hk.cell c0 (not_no _); have c1 := hk.cell c1 (not_no _); have c2 := hk.cell c2 (not_no _); have c3 := hk.cell c3 (not_no _); have c4 := hk.cell c4 (not_no _); have v0 := hk.cell v0 (not_no _); have v1 := hk.cell v1 (not_no _); have v2 := hk.cell v2 (not_no _); have v3 := hk.cell v3 (not_no _); have HZ := Lib.hid (HZ.out.to (by first | exact hk | exact hk.of_drew)); clear hk) | (go_at_call 16; refine (HSELF.out _).mono ?_; rintro e wz ⟨rfl, hk⟩; have m0 := hk.cell m0 (not_no _); have m1 := hk.cell m1 (not_no _); have m2 := hk.cell m2 (not_no _); have m3 := hk.cell m3 (not_no _); have c0 := hk.cell c0 (not_no _); have c1 := hk.cell c1 (not_no _); have c2 := hk.cell c2 (not_no _); have c3 := hk.cell c3 (not_no _); have c4 := hk.cell c4 (not_no _); have v0 := hk.cell v0 (not_no _); have v1 := hk.cell v1 (not_no _); have v2 := hk.cell v2 (not_no _); have v3 := hk.cell v3 (not_no _); have HZ := Lib.hid (HZ.out.to (by first | exact hk | exact hk.of_drew)); clear hk) | (go_at_call 17; refine (known_any _ ?_).mono ?_; (exact HE.out.kept HZ.out.s.kept); rintro e wz ⟨rfl, hk⟩; have m0 := hk.cell m0 (not_no _); have m1 := hk.cell m1 (not_no _); have m2 := hk.cell m2 (not_no _); have m3 := hk.cell m3 (not_no _); have c0 := hk.cell c0 (not_no _); have c1 := hk.cell c1 (not_no _); have c2 := hk.cell c2 (not_no _); have c3 := hk.cell c3 (not_no _); have c4 := hk.cell c4 (not_no _); have v0 := hk.cell v0 (not_no _); have v1 := hk.cell v1 (not_no _); have v2 := hk.cell v2 (not_no _); have v3 := hk.cell v3 (not_no _); have HZ := Lib.hid (HZ.out.to (by first | exact hk | exact hk.of_drew)); clear hk))
      all_goals go_wp2_with fail
      all_goals go_ret
      all_goals exact ⟨rfl, HZ.out.s.kept⟩
    · have HRV := Lib.hid (fun W => (show Calls Tryd.prog 8 #[.agg #[.int .i64 a, .int .i64 b, .int .i64 c, .int .i64 d]] W fun e w' => e = .returned (.bool false) ∧ Kept No W w' from hi ▸ rvalid_any a b c d W))
      have HMV := Lib.hid (fun W => (show Calls Tryd.prog 12 #[.agg #[.int .i64 a, .int .i64 b, .int .i64 c, .int .i64 d]] W fun e w' => e = .returned (.bool false) ∧ Kept No W w' from hi ▸ valid_any a b c d W))
      have HRC := Lib.hid (fun W => (show Calls Tryd.prog 10 #[.agg #[.int .i64 x, .int .i64 y, .int .i64 z, .int .i64 u, .int .i64 g]] W fun e w' => e = .returned (.bool true) ∧ Kept No W w' from hj ▸ rvalidCost_any x y z u g W))
      have HMC := Lib.hid (fun W => (show Calls Tryd.prog 13 #[.agg #[.int .i64 x, .int .i64 y, .int .i64 z, .int .i64 u, .int .i64 g]] W fun e w' => e = .returned (.bool true) ∧ Kept No W w' from hj ▸ validCost_any x y z u g W))
      have HTO := Lib.hid (fun W => (show Calls Tryd.prog 14 #[.agg #[.int .i64 a, .int .i64 b, .int .i64 c, .int .i64 d]] W fun e w' => e = .returned (.int .i64 (0)) ∧ Kept No W w' from (total_any a b c d W).mono fun e w' ⟨he, hk⟩ => ⟨he.trans (by unfold tot; rw [hi]; rfl), hk⟩))
      have HVA := Lib.hid (fun W => (show Calls Tryd.prog 15 #[.agg #[.int .i64 x, .int .i64 y, .int .i64 z, .int .i64 u, .int .i64 g]] W fun e w' => e = .returned (.int .i64 (x + y + z + u + g)) ∧ Kept No W w' from (value_any x y z u g W).mono fun e w' ⟨he, hk⟩ => ⟨he.trans (by unfold val; rw [hj]; rfl), hk⟩))
      obtain ⟨hX, g1, g2⟩ := cost_out hj
      have HSC := Lib.hid (fun W => rsum_any x y z u W (in4_mono hX (by decide)))
      obtain ⟨⟨x1, x2⟩, ⟨y1, y2⟩, ⟨z1, z2⟩, ⟨u1, u2⟩⟩ := in4_out hX
      clear hX
      have hsw : IntKind.i64.wrap (x + y + z + u + g) = x + y + z + u + g := IntWalk.i64_in _ (by omega)
      clear hi hj
      go_enter Tryd.func3, Tryd.ntmps3
      go_wp2_with fail
      refine (HRV.out _).mono ?_
      rintro e w2 ⟨rfl, hk⟩
      have H2 := Lib.hid (H1.out.to hk)
      clear hk
      have m0 := obj_cell H2.out.hm 0
      have m1 := obj_cell H2.out.hm 1
      have m2 := obj_cell H2.out.hm 2
      have m3 := obj_cell H2.out.hm 3
      have c0 := obj_cell H2.out.hc 0
      have c1 := obj_cell H2.out.hc 1
      have c2 := obj_cell H2.out.hc 2
      have c3 := obj_cell H2.out.hc 3
      have c4 := obj_cell H2.out.hc 4
      go_wp2_with fail
      refine (HRC.out _).mono ?_
      rintro e w3 ⟨rfl, hk⟩
      have H3 := Lib.hid (H2.out.to hk)
      clear hk
      have m0 := obj_cell H3.out.hm 0
      have m1 := obj_cell H3.out.hm 1
      have m2 := obj_cell H3.out.hm 2
      have m3 := obj_cell H3.out.hm 3
      have c0 := obj_cell H3.out.hc 0
      have c1 := obj_cell H3.out.hc 1
      have c2 := obj_cell H3.out.hc 2
      have c3 := obj_cell H3.out.hc 3
      have c4 := obj_cell H3.out.hc 4
      go_wp2_with fail
      have HZ := Lib.hid H3.out
      go_region_held3 (fun w' => w'.cell? ⟨w.heap.size + 1, 0, none⟩ = some (.int .i64 x) ∧ w'.cell? ⟨w.heap.size + 1, 1, none⟩ = some (.int .i64 y) ∧ w'.cell? ⟨w.heap.size + 1, 2, none⟩ = some (.int .i64 z) ∧ w'.cell? ⟨w.heap.size + 1, 3, none⟩ = some (.int .i64 u) ∧ w'.cell? ⟨w.heap.size + 1, 4, none⟩ = some (.int .i64 g)) (first | go_keep | exact ⟨c0, c1, c2, c3, c4⟩)
        (first | (go_at_call 9; refine (HSC.out _).mono ?_; rintro e wz ⟨rfl, hk⟩; have m0 := hk.cell m0 (not_no _); have m1 := hk.cell m1 (not_no _); have m2 := hk.cell m2 (not_no _); have m3 := hk.cell m3 (not_no _); have c0 := hk.cell c0 (not_no _); have c1 := hk.cell c1 (not_no _); have c2 := hk.cell c2 (not_no _); have c3 := hk.cell c3 (not_no _); have c4 := hk.cell c4 (not_no _); have HZ := Lib.hid (HZ.out.to (by first | exact hk | exact hk.of_drew)); clear hk))
      have H4 := Lib.hid HZ.out
      clear HZ
      have m0 := obj_cell H4.out.hm 0
      have m1 := obj_cell H4.out.hm 1
      have m2 := obj_cell H4.out.hm 2
      have m3 := obj_cell H4.out.hm 3
      have c0 := obj_cell H4.out.hc 0
      have c1 := obj_cell H4.out.hc 1
      have c2 := obj_cell H4.out.hc 2
      have c3 := obj_cell H4.out.hc 3
      have c4 := obj_cell H4.out.hc 4
      go_wp2_with fail
      refine (HAD.out _).mono ?_
      rintro e w8 ⟨rfl, hk⟩
      obtain ⟨w9, hw9⟩ : ∃ w9, w8.alloc (.cells #[.int .i64 p, .int .i64 q, .int .i64 r, .int .i64 t] 23) = w9 := ⟨_, rfl⟩
      have HZ := Lib.hid (show SW #[.int .i64 a, .int .i64 b, .int .i64 c, .int .i64 d] #[.int .i64 x, .int .i64 y, .int .i64 z, .int .i64 u, .int .i64 g] #[.int .i64 p, .int .i64 q, .int .i64 r, .int .i64 t] 23 w w8.heap.size w9 by
        rw [← hw9]
        exact ⟨(H4.out.to hk).to ((Kept.refl No w8).alloc _), heap_alloc_new w8 _⟩)
      clear hk
      have m0 := obj_cell HZ.out.s.hm 0
      have m1 := obj_cell HZ.out.s.hm 1
      have m2 := obj_cell HZ.out.s.hm 2
      have m3 := obj_cell HZ.out.s.hm 3
      have c0 := obj_cell HZ.out.s.hc 0
      have c1 := obj_cell HZ.out.s.hc 1
      have c2 := obj_cell HZ.out.s.hc 2
      have c3 := obj_cell HZ.out.s.hc 3
      have c4 := obj_cell HZ.out.s.hc 4
      have v0 := obj_cell HZ.out.hw 0
      have v1 := obj_cell HZ.out.hw 1
      have v2 := obj_cell HZ.out.hw 2
      have v3 := obj_cell HZ.out.hw 3
      go_wp2_with fail
      go_region_held3 (fun w' => w'.cell? ⟨w.heap.size, 0, none⟩ = some (.int .i64 a) ∧ w'.cell? ⟨w.heap.size, 1, none⟩ = some (.int .i64 b) ∧ w'.cell? ⟨w.heap.size, 2, none⟩ = some (.int .i64 c) ∧ w'.cell? ⟨w.heap.size, 3, none⟩ = some (.int .i64 d) ∧ w'.cell? ⟨w.heap.size + 1, 0, none⟩ = some (.int .i64 x) ∧ w'.cell? ⟨w.heap.size + 1, 1, none⟩ = some (.int .i64 y) ∧ w'.cell? ⟨w.heap.size + 1, 2, none⟩ = some (.int .i64 z) ∧ w'.cell? ⟨w.heap.size + 1, 3, none⟩ = some (.int .i64 u) ∧ w'.cell? ⟨w.heap.size + 1, 4, none⟩ = some (.int .i64 g) ∧ w'.cell? ⟨w8.heap.size, 0, none⟩ = some (.int .i64 p) ∧ w'.cell? ⟨w8.heap.size, 1, none⟩ = some (.int .i64 q) ∧ w'.cell? ⟨w8.heap.size, 2, none⟩ = some (.int .i64 r) ∧ w'.cell? ⟨w8.heap.size, 3, none⟩ = some (.int .i64 t)) (first | go_keep | exact ⟨m0, m1, m2, m3, c0, c1, c2, c3, c4, v0, v1, v2, v3⟩)
        (first | (go_at_call 12; refine (HMV.out _).mono ?_; rintro e wz ⟨rfl, hk⟩; have m0 := hk.cell m0 (not_no _); have m1 := hk.cell m1 (not_no _); have m2 := hk.cell m2 (not_no _); have m3 := hk.cell m3 (not_no _); have c0 := hk.cell c0 (not_no _); have c1 := hk.cell c1 (not_no _); have c2 := hk.cell c2 (not_no _); have c3 := hk.cell c3 (not_no _); have c4 := hk.cell c4 (not_no _); have v0 := hk.cell v0 (not_no _); have v1 := hk.cell v1 (not_no _); have v2 := hk.cell v2 (not_no _); have v3 := hk.cell v3 (not_no _); have HZ := Lib.hid (HZ.out.to (by first | exact hk | exact hk.of_drew)); clear hk) | (go_at_call 8; refine (HRV.out _).mono ?_; rintro e wz ⟨rfl, hk⟩; have m0 := hk.cell m0 (not_no _); have m1 := hk.cell m1 (not_no _); have m2 := hk.cell m2 (not_no _); have m3 := hk.cell m3 (not_no _); have c0 := hk.cell c0 (not_no _); have c1 := hk.cell c1 (not_no _); have c2 := hk.cell c2 (not_no _); have c3 := hk.cell c3 (not_no _); have c4 := hk.cell c4 (not_no _); have v0 := hk.cell v0 (not_no _); have v1 := hk.cell v1 (not_no _); have v2 := hk.cell v2 (not_no _); have v3 := hk.cell v3 (not_no _); have HZ := Lib.hid (HZ.out.to (by first | exact hk | exact hk.of_drew)); clear hk) | (go_at_call 13; refine (HMC.out _).mono ?_; rintro e wz ⟨rfl, hk⟩; have m0 := hk.cell m0 (not_no _); have m1 := hk.cell m1 (not_no _); have m2 := hk.cell m2 (not_no _); have m3 := hk.cell m3 (not_no _); have c0 := hk.cell c0 (not_no _); have c1 := hk.cell c1 (not_no _); have c2 := hk.cell c2 (not_no _); have c3 := hk.cell c3 (not_no _); have c4 := hk.cell c4 (not_no _); have v0 := hk.cell v0 (not_no _); have v1 := hk.cell v1 (not_no _); have v2 := hk.cell v2 (not_no _); have v3 := hk.cell v3 (not_no _); have HZ := Lib.hid (HZ.out.to (by first | exact hk | exact hk.of_drew)); clear hk) | (go_at_call 10; refine (HRC.out _).mono ?_; rintro e wz ⟨rfl, hk⟩; have m0 := hk.cell m0 (not_no _); have m1 := hk.cell m1 (not_no _); have m2 := hk.cell m2 (not_no _); have m3 := hk.cell m3 (not_no _); have c0 := hk.cell c0 (not_no _); have c1 := hk.cell c1 (not_no _); have c2 := hk.cell c2 (not_no _); have c3 := hk.cell c3 (not_no _); have c4 := hk.cell c4 (not_no _); have v0 := hk.cell v0 (not_no _); have v1 := hk.cell v1 (not_no _); have v2 := hk.cell v2 (not_no _); have v3 := hk.cell v3 (not_no _); have HZ := Lib.hid (HZ.out.to (by first | exact hk | exact hk.of_drew)); clear hk) | (go_at_call 14; refine (HTO.out _).mono ?_; rintro e wz ⟨rfl, hk⟩; have m0 := hk.cell m0 (not_no _); have m1 := hk.cell m1 (not_no _); have m2 := hk.cell m2 (not_no _); have m3 := hk.cell m3 (not_no _); have c0 := hk.cell c0 (not_no _); have c1 := hk.cell c1 (not_no _); have c2 := hk.cell c2 (not_no _); have c3 := hk.cell c3 (not_no _); have c4 := hk.cell c4 (not_no _); have v0 := hk.cell v0 (not_no _); have v1 := hk.cell v1 (not_no _); have v2 := hk.cell v2 (not_no _); have v3 := hk.cell v3 (not_no _); have HZ := Lib.hid (HZ.out.to (by first | exact hk | exact hk.of_drew)); clear hk) | (go_at_call 15; refine (HVA.out _).mono ?_; rintro e wz ⟨rfl, hk⟩; have m0 := hk.cell m0 (not_no _); have m1 := hk.cell m1 (not_no _); have m2 := hk.cell m2 (not_no _); have m3 := hk.cell m3 (not_no _); have c0 := hk.cell c0 (not_no _); have c1 := hk.cell c1 (not_no _); have c2 := hk.cell c2 (not_no _); have c3 := hk.cell c3 (not_no _); have c4 := hk.cell c4 (not_no _); have v0 := hk.cell v0 (not_no _); have v1 := hk.cell v1 (not_no _); have v2 := hk.cell v2 (not_no _); have v3 := hk.cell v3 (not_no _); have HZ := Lib.hid (HZ.out.to (by first | exact hk | exact hk.of_drew)); clear hk) | (go_at_call 16; refine (HSELF.out _).mono ?_; rintro e wz ⟨rfl, hk⟩; have m0 := hk.cell m0 (not_no _); have m1 := hk.cell m1 (not_no _); have m2 := hk.cell m2 (not_no _); have m3 := hk.cell m3 (not_no _); have c0 := hk.cell c0 (not_no _); have c1 := hk.cell c1 (not_no _); have c2 := hk.cell c2 (not_no _); have c3 := hk.cell c3 (not_no _); have c4 := hk.cell c4 (not_no _); have v0 := hk.cell v0 (not_no _); have v1 := hk.cell v1 (not_no _); have v2 := hk.cell v2 (not_no _); have v3 := hk.cell v3 (not_no _); have HZ := Lib.hid (HZ.out.to (by first | exact hk | exact hk.of_drew)); clear hk) | (go_at_call 17; refine (known_any _ ?_).mono ?_; (exact HE.out.kept HZ.out.s.kept); rintro e wz ⟨rfl, hk⟩; have m0 := hk.cell m0 (not_no _); have m1 := hk.cell m1 (not_no _); have m2 := hk.cell m2 (not_no _); have m3 := hk.cell m3 (not_no _); have c0 := hk.cell c0 (not_no _); have c1 := hk.cell c1 (not_no _); have c2 := hk.cell c2 (not_no _); have c3 := hk.cell c3 (not_no _); have c4 := hk.cell c4 (not_no _); have v0 := hk.cell v0 (not_no _); have v1 := hk.cell v1 (not_no _); have v2 := hk.cell v2 (not_no _); have v3 := hk.cell v3 (not_no _); have HZ := Lib.hid (HZ.out.to (by first | exact hk | exact hk.of_drew)); clear hk))
      all_goals go_wp2_with fail
      all_goals go_ret
      all_goals exact ⟨rfl, HZ.out.s.kept⟩
  · cases hj : cost x y z u g
    · have HRV := Lib.hid (fun W => (show Calls Tryd.prog 8 #[.agg #[.int .i64 a, .int .i64 b, .int .i64 c, .int .i64 d]] W fun e w' => e = .returned (.bool true) ∧ Kept No W w' from hi ▸ rvalid_any a b c d W))
      have HMV := Lib.hid (fun W => (show Calls Tryd.prog 12 #[.agg #[.int .i64 a, .int .i64 b, .int .i64 c, .int .i64 d]] W fun e w' => e = .returned (.bool true) ∧ Kept No W w' from hi ▸ valid_any a b c d W))
      have HRC := Lib.hid (fun W => (show Calls Tryd.prog 10 #[.agg #[.int .i64 x, .int .i64 y, .int .i64 z, .int .i64 u, .int .i64 g]] W fun e w' => e = .returned (.bool false) ∧ Kept No W w' from hj ▸ rvalidCost_any x y z u g W))
      have HMC := Lib.hid (fun W => (show Calls Tryd.prog 13 #[.agg #[.int .i64 x, .int .i64 y, .int .i64 z, .int .i64 u, .int .i64 g]] W fun e w' => e = .returned (.bool false) ∧ Kept No W w' from hj ▸ validCost_any x y z u g W))
      have HTO := Lib.hid (fun W => (show Calls Tryd.prog 14 #[.agg #[.int .i64 a, .int .i64 b, .int .i64 c, .int .i64 d]] W fun e w' => e = .returned (.int .i64 (a + b + c + d)) ∧ Kept No W w' from (total_any a b c d W).mono fun e w' ⟨he, hk⟩ => ⟨he.trans (by unfold tot; rw [hi]; rfl), hk⟩))
      have HVA := Lib.hid (fun W => (show Calls Tryd.prog 15 #[.agg #[.int .i64 x, .int .i64 y, .int .i64 z, .int .i64 u, .int .i64 g]] W fun e w' => e = .returned (.int .i64 (0)) ∧ Kept No W w' from (value_any x y z u g W).mono fun e w' ⟨he, hk⟩ => ⟨he.trans (by unfold val; rw [hj]; rfl), hk⟩))
      have HSM := Lib.hid (fun W => rsum_any a b c d W hi)
      clear hi hj
      go_enter Tryd.func3, Tryd.ntmps3
      go_wp2_with fail
      refine (HRV.out _).mono ?_
      rintro e w2 ⟨rfl, hk⟩
      have H2 := Lib.hid (H1.out.to hk)
      clear hk
      have m0 := obj_cell H2.out.hm 0
      have m1 := obj_cell H2.out.hm 1
      have m2 := obj_cell H2.out.hm 2
      have m3 := obj_cell H2.out.hm 3
      have c0 := obj_cell H2.out.hc 0
      have c1 := obj_cell H2.out.hc 1
      have c2 := obj_cell H2.out.hc 2
      have c3 := obj_cell H2.out.hc 3
      have c4 := obj_cell H2.out.hc 4
      go_wp2_with fail
      refine (HSM.out _).mono ?_
      rintro e w3 ⟨rfl, hk⟩
      have H3 := Lib.hid (H2.out.to hk)
      clear hk
      have m0 := obj_cell H3.out.hm 0
      have m1 := obj_cell H3.out.hm 1
      have m2 := obj_cell H3.out.hm 2
      have m3 := obj_cell H3.out.hm 3
      have c0 := obj_cell H3.out.hc 0
      have c1 := obj_cell H3.out.hc 1
      have c2 := obj_cell H3.out.hc 2
      have c3 := obj_cell H3.out.hc 3
      have c4 := obj_cell H3.out.hc 4
      go_wp2_with fail
      refine (HRC.out _).mono ?_
      rintro e w4 ⟨rfl, hk⟩
      have H4 := Lib.hid (H3.out.to hk)
      clear hk
      have m0 := obj_cell H4.out.hm 0
      have m1 := obj_cell H4.out.hm 1
      have m2 := obj_cell H4.out.hm 2
      have m3 := obj_cell H4.out.hm 3
      have c0 := obj_cell H4.out.hc 0
      have c1 := obj_cell H4.out.hc 1
      have c2 := obj_cell H4.out.hc 2
      have c3 := obj_cell H4.out.hc 3
      have c4 := obj_cell H4.out.hc 4
      go_wp2_with fail
      refine (HAD.out _).mono ?_
      rintro e w8 ⟨rfl, hk⟩
      obtain ⟨w9, hw9⟩ : ∃ w9, w8.alloc (.cells #[.int .i64 p, .int .i64 q, .int .i64 r, .int .i64 t] 23) = w9 := ⟨_, rfl⟩
      have HZ := Lib.hid (show SW #[.int .i64 a, .int .i64 b, .int .i64 c, .int .i64 d] #[.int .i64 x, .int .i64 y, .int .i64 z, .int .i64 u, .int .i64 g] #[.int .i64 p, .int .i64 q, .int .i64 r, .int .i64 t] 23 w w8.heap.size w9 by
        rw [← hw9]
        exact ⟨(H4.out.to hk).to ((Kept.refl No w8).alloc _), heap_alloc_new w8 _⟩)
      clear hk
      have m0 := obj_cell HZ.out.s.hm 0
      have m1 := obj_cell HZ.out.s.hm 1
      have m2 := obj_cell HZ.out.s.hm 2
      have m3 := obj_cell HZ.out.s.hm 3
      have c0 := obj_cell HZ.out.s.hc 0
      have c1 := obj_cell HZ.out.s.hc 1
      have c2 := obj_cell HZ.out.s.hc 2
      have c3 := obj_cell HZ.out.s.hc 3
      have c4 := obj_cell HZ.out.s.hc 4
      have v0 := obj_cell HZ.out.hw 0
      have v1 := obj_cell HZ.out.hw 1
      have v2 := obj_cell HZ.out.hw 2
      have v3 := obj_cell HZ.out.hw 3
      go_wp2_with fail
      go_region_held3 (fun w' => w'.cell? ⟨w.heap.size, 0, none⟩ = some (.int .i64 a) ∧ w'.cell? ⟨w.heap.size, 1, none⟩ = some (.int .i64 b) ∧ w'.cell? ⟨w.heap.size, 2, none⟩ = some (.int .i64 c) ∧ w'.cell? ⟨w.heap.size, 3, none⟩ = some (.int .i64 d) ∧ w'.cell? ⟨w.heap.size + 1, 0, none⟩ = some (.int .i64 x) ∧ w'.cell? ⟨w.heap.size + 1, 1, none⟩ = some (.int .i64 y) ∧ w'.cell? ⟨w.heap.size + 1, 2, none⟩ = some (.int .i64 z) ∧ w'.cell? ⟨w.heap.size + 1, 3, none⟩ = some (.int .i64 u) ∧ w'.cell? ⟨w.heap.size + 1, 4, none⟩ = some (.int .i64 g) ∧ w'.cell? ⟨w8.heap.size, 0, none⟩ = some (.int .i64 p) ∧ w'.cell? ⟨w8.heap.size, 1, none⟩ = some (.int .i64 q) ∧ w'.cell? ⟨w8.heap.size, 2, none⟩ = some (.int .i64 r) ∧ w'.cell? ⟨w8.heap.size, 3, none⟩ = some (.int .i64 t)) (first | go_keep | exact ⟨m0, m1, m2, m3, c0, c1, c2, c3, c4, v0, v1, v2, v3⟩)
        (first | (go_at_call 12; refine (HMV.out _).mono ?_; rintro e wz ⟨rfl, hk⟩; have m0 := hk.cell m0 (not_no _); have m1 := hk.cell m1 (not_no _); have m2 := hk.cell m2 (not_no _); have m3 := hk.cell m3 (not_no _); have c0 := hk.cell c0 (not_no _); have c1 := hk.cell c1 (not_no _); have c2 := hk.cell c2 (not_no _); have c3 := hk.cell c3 (not_no _); have c4 := hk.cell c4 (not_no _); have v0 := hk.cell v0 (not_no _); have v1 := hk.cell v1 (not_no _); have v2 := hk.cell v2 (not_no _); have v3 := hk.cell v3 (not_no _); have HZ := Lib.hid (HZ.out.to (by first | exact hk | exact hk.of_drew)); clear hk) | (go_at_call 8; refine (HRV.out _).mono ?_; rintro e wz ⟨rfl, hk⟩; have m0 := hk.cell m0 (not_no _); have m1 := hk.cell m1 (not_no _); have m2 := hk.cell m2 (not_no _); have m3 := hk.cell m3 (not_no _); have c0 := hk.cell c0 (not_no _); have c1 := hk.cell c1 (not_no _); have c2 := hk.cell c2 (not_no _); have c3 := hk.cell c3 (not_no _); have c4 := hk.cell c4 (not_no _); have v0 := hk.cell v0 (not_no _); have v1 := hk.cell v1 (not_no _); have v2 := hk.cell v2 (not_no _); have v3 := hk.cell v3 (not_no _); have HZ := Lib.hid (HZ.out.to (by first | exact hk | exact hk.of_drew)); clear hk) | (go_at_call 13; refine (HMC.out _).mono ?_; rintro e wz ⟨rfl, hk⟩; have m0 := hk.cell m0 (not_no _); have m1 := hk.cell m1 (not_no _); have m2 := hk.cell m2 (not_no _); have m3 := hk.cell m3 (not_no _); have c0 := hk.cell c0 (not_no _); have c1 := hk.cell c1 (not_no _); have c2 := hk.cell c2 (not_no _); have c3 := hk.cell c3 (not_no _); have c4 := hk.cell c4 (not_no _); have v0 := hk.cell v0 (not_no _); have v1 := hk.cell v1 (not_no _); have v2 := hk.cell v2 (not_no _); have v3 := hk.cell v3 (not_no _); have HZ := Lib.hid (HZ.out.to (by first | exact hk | exact hk.of_drew)); clear hk) | (go_at_call 10; refine (HRC.out _).mono ?_; rintro e wz ⟨rfl, hk⟩; have m0 := hk.cell m0 (not_no _); have m1 := hk.cell m1 (not_no _); have m2 := hk.cell m2 (not_no _); have m3 := hk.cell m3 (not_no _); have c0 := hk.cell c0 (not_no _); have c1 := hk.cell c1 (not_no _); have c2 := hk.cell c2 (not_no _); have c3 := hk.cell c3 (not_no _); have c4 := hk.cell c4 (not_no _); have v0 := hk.cell v0 (not_no _); have v1 := hk.cell v1 (not_no _); have v2 := hk.cell v2 (not_no _); have v3 := hk.cell v3 (not_no _); have HZ := Lib.hid (HZ.out.to (by first | exact hk | exact hk.of_drew)); clear hk) | (go_at_call 14; refine (HTO.out _).mono ?_; rintro e wz ⟨rfl, hk⟩; have m0 := hk.cell m0 (not_no _); have m1 := hk.cell m1 (not_no _); have m2 := hk.cell m2 (not_no _); have m3 := hk.cell m3 (not_no _); have c0 := hk.cell c0 (not_no _); have c1 := hk.cell c1 (not_no _); have c2 := hk.cell c2 (not_no _); have c3 := hk.cell c3 (not_no _); have c4 := hk.cell c4 (not_no _); have v0 := hk.cell v0 (not_no _); have v1 := hk.cell v1 (not_no _); have v2 := hk.cell v2 (not_no _); have v3 := hk.cell v3 (not_no _); have HZ := Lib.hid (HZ.out.to (by first | exact hk | exact hk.of_drew)); clear hk) | (go_at_call 15; refine (HVA.out _).mono ?_; rintro e wz ⟨rfl, hk⟩; have m0 := hk.cell m0 (not_no _); have m1 := hk.cell m1 (not_no _); have m2 := hk.cell m2 (not_no _); have m3 := hk.cell m3 (not_no _); have c0 := hk.cell c0 (not_no _); have c1 := hk.cell c1 (not_no _); have c2 := hk.cell c2 (not_no _); have c3 := hk.cell c3 (not_no _); have c4 := hk.cell c4 (not_no _); have v0 := hk.cell v0 (not_no _); have v1 := hk.cell v1 (not_no _); have v2 := hk.cell v2 (not_no _); have v3 := hk.cell v3 (not_no _); have HZ := Lib.hid (HZ.out.to (by first | exact hk | exact hk.of_drew)); clear hk) | (go_at_call 16; refine (HSELF.out _).mono ?_; rintro e wz ⟨rfl, hk⟩; have m0 := hk.cell m0 (not_no _); have m1 := hk.cell m1 (not_no _); have m2 := hk.cell m2 (not_no _); have m3 := hk.cell m3 (not_no _); have c0 := hk.cell c0 (not_no _); have c1 := hk.cell c1 (not_no _); have c2 := hk.cell c2 (not_no _); have c3 := hk.cell c3 (not_no _); have c4 := hk.cell c4 (not_no _); have v0 := hk.cell v0 (not_no _); have v1 := hk.cell v1 (not_no _); have v2 := hk.cell v2 (not_no _); have v3 := hk.cell v3 (not_no _); have HZ := Lib.hid (HZ.out.to (by first | exact hk | exact hk.of_drew)); clear hk) | (go_at_call 17; refine (known_any _ ?_).mono ?_; (exact HE.out.kept HZ.out.s.kept); rintro e wz ⟨rfl, hk⟩; have m0 := hk.cell m0 (not_no _); have m1 := hk.cell m1 (not_no _); have m2 := hk.cell m2 (not_no _); have m3 := hk.cell m3 (not_no _); have c0 := hk.cell c0 (not_no _); have c1 := hk.cell c1 (not_no _); have c2 := hk.cell c2 (not_no _); have c3 := hk.cell c3 (not_no _); have c4 := hk.cell c4 (not_no _); have v0 := hk.cell v0 (not_no _); have v1 := hk.cell v1 (not_no _); have v2 := hk.cell v2 (not_no _); have v3 := hk.cell v3 (not_no _); have HZ := Lib.hid (HZ.out.to (by first | exact hk | exact hk.of_drew)); clear hk))
      all_goals go_wp2_with fail
      all_goals go_ret
      all_goals exact ⟨rfl, HZ.out.s.kept⟩
    · have HRV := Lib.hid (fun W => (show Calls Tryd.prog 8 #[.agg #[.int .i64 a, .int .i64 b, .int .i64 c, .int .i64 d]] W fun e w' => e = .returned (.bool true) ∧ Kept No W w' from hi ▸ rvalid_any a b c d W))
      have HMV := Lib.hid (fun W => (show Calls Tryd.prog 12 #[.agg #[.int .i64 a, .int .i64 b, .int .i64 c, .int .i64 d]] W fun e w' => e = .returned (.bool true) ∧ Kept No W w' from hi ▸ valid_any a b c d W))
      have HRC := Lib.hid (fun W => (show Calls Tryd.prog 10 #[.agg #[.int .i64 x, .int .i64 y, .int .i64 z, .int .i64 u, .int .i64 g]] W fun e w' => e = .returned (.bool true) ∧ Kept No W w' from hj ▸ rvalidCost_any x y z u g W))
      have HMC := Lib.hid (fun W => (show Calls Tryd.prog 13 #[.agg #[.int .i64 x, .int .i64 y, .int .i64 z, .int .i64 u, .int .i64 g]] W fun e w' => e = .returned (.bool true) ∧ Kept No W w' from hj ▸ validCost_any x y z u g W))
      have HTO := Lib.hid (fun W => (show Calls Tryd.prog 14 #[.agg #[.int .i64 a, .int .i64 b, .int .i64 c, .int .i64 d]] W fun e w' => e = .returned (.int .i64 (a + b + c + d)) ∧ Kept No W w' from (total_any a b c d W).mono fun e w' ⟨he, hk⟩ => ⟨he.trans (by unfold tot; rw [hi]; rfl), hk⟩))
      have HVA := Lib.hid (fun W => (show Calls Tryd.prog 15 #[.agg #[.int .i64 x, .int .i64 y, .int .i64 z, .int .i64 u, .int .i64 g]] W fun e w' => e = .returned (.int .i64 (x + y + z + u + g)) ∧ Kept No W w' from (value_any x y z u g W).mono fun e w' ⟨he, hk⟩ => ⟨he.trans (by unfold val; rw [hj]; rfl), hk⟩))
      have HSM := Lib.hid (fun W => rsum_any a b c d W hi)
      obtain ⟨hX, g1, g2⟩ := cost_out hj
      have HSC := Lib.hid (fun W => rsum_any x y z u W (in4_mono hX (by decide)))
      obtain ⟨⟨x1, x2⟩, ⟨y1, y2⟩, ⟨z1, z2⟩, ⟨u1, u2⟩⟩ := in4_out hX
      clear hX
      have hsw : IntKind.i64.wrap (x + y + z + u + g) = x + y + z + u + g := IntWalk.i64_in _ (by omega)
      clear hi hj
      go_enter Tryd.func3, Tryd.ntmps3
      go_wp2_with fail
      refine (HRV.out _).mono ?_
      rintro e w2 ⟨rfl, hk⟩
      have H2 := Lib.hid (H1.out.to hk)
      clear hk
      have m0 := obj_cell H2.out.hm 0
      have m1 := obj_cell H2.out.hm 1
      have m2 := obj_cell H2.out.hm 2
      have m3 := obj_cell H2.out.hm 3
      have c0 := obj_cell H2.out.hc 0
      have c1 := obj_cell H2.out.hc 1
      have c2 := obj_cell H2.out.hc 2
      have c3 := obj_cell H2.out.hc 3
      have c4 := obj_cell H2.out.hc 4
      go_wp2_with fail
      refine (HSM.out _).mono ?_
      rintro e w3 ⟨rfl, hk⟩
      have H3 := Lib.hid (H2.out.to hk)
      clear hk
      have m0 := obj_cell H3.out.hm 0
      have m1 := obj_cell H3.out.hm 1
      have m2 := obj_cell H3.out.hm 2
      have m3 := obj_cell H3.out.hm 3
      have c0 := obj_cell H3.out.hc 0
      have c1 := obj_cell H3.out.hc 1
      have c2 := obj_cell H3.out.hc 2
      have c3 := obj_cell H3.out.hc 3
      have c4 := obj_cell H3.out.hc 4
      go_wp2_with fail
      refine (HRC.out _).mono ?_
      rintro e w4 ⟨rfl, hk⟩
      have H4 := Lib.hid (H3.out.to hk)
      clear hk
      have m0 := obj_cell H4.out.hm 0
      have m1 := obj_cell H4.out.hm 1
      have m2 := obj_cell H4.out.hm 2
      have m3 := obj_cell H4.out.hm 3
      have c0 := obj_cell H4.out.hc 0
      have c1 := obj_cell H4.out.hc 1
      have c2 := obj_cell H4.out.hc 2
      have c3 := obj_cell H4.out.hc 3
      have c4 := obj_cell H4.out.hc 4
      go_wp2_with fail
      have HZ := Lib.hid H4.out
      go_region_held3 (fun w' => w'.cell? ⟨w.heap.size + 1, 0, none⟩ = some (.int .i64 x) ∧ w'.cell? ⟨w.heap.size + 1, 1, none⟩ = some (.int .i64 y) ∧ w'.cell? ⟨w.heap.size + 1, 2, none⟩ = some (.int .i64 z) ∧ w'.cell? ⟨w.heap.size + 1, 3, none⟩ = some (.int .i64 u) ∧ w'.cell? ⟨w.heap.size + 1, 4, none⟩ = some (.int .i64 g)) (first | go_keep | exact ⟨c0, c1, c2, c3, c4⟩)
        (first | (go_at_call 9; refine (HSC.out _).mono ?_; rintro e wz ⟨rfl, hk⟩; have m0 := hk.cell m0 (not_no _); have m1 := hk.cell m1 (not_no _); have m2 := hk.cell m2 (not_no _); have m3 := hk.cell m3 (not_no _); have c0 := hk.cell c0 (not_no _); have c1 := hk.cell c1 (not_no _); have c2 := hk.cell c2 (not_no _); have c3 := hk.cell c3 (not_no _); have c4 := hk.cell c4 (not_no _); have HZ := Lib.hid (HZ.out.to (by first | exact hk | exact hk.of_drew)); clear hk))
      have H5 := Lib.hid HZ.out
      clear HZ
      have m0 := obj_cell H5.out.hm 0
      have m1 := obj_cell H5.out.hm 1
      have m2 := obj_cell H5.out.hm 2
      have m3 := obj_cell H5.out.hm 3
      have c0 := obj_cell H5.out.hc 0
      have c1 := obj_cell H5.out.hc 1
      have c2 := obj_cell H5.out.hc 2
      have c3 := obj_cell H5.out.hc 3
      have c4 := obj_cell H5.out.hc 4
      go_wp2_with fail
      refine (HAD.out _).mono ?_
      rintro e w8 ⟨rfl, hk⟩
      obtain ⟨w9, hw9⟩ : ∃ w9, w8.alloc (.cells #[.int .i64 p, .int .i64 q, .int .i64 r, .int .i64 t] 23) = w9 := ⟨_, rfl⟩
      have HZ := Lib.hid (show SW #[.int .i64 a, .int .i64 b, .int .i64 c, .int .i64 d] #[.int .i64 x, .int .i64 y, .int .i64 z, .int .i64 u, .int .i64 g] #[.int .i64 p, .int .i64 q, .int .i64 r, .int .i64 t] 23 w w8.heap.size w9 by
        rw [← hw9]
        exact ⟨(H5.out.to hk).to ((Kept.refl No w8).alloc _), heap_alloc_new w8 _⟩)
      clear hk
      have m0 := obj_cell HZ.out.s.hm 0
      have m1 := obj_cell HZ.out.s.hm 1
      have m2 := obj_cell HZ.out.s.hm 2
      have m3 := obj_cell HZ.out.s.hm 3
      have c0 := obj_cell HZ.out.s.hc 0
      have c1 := obj_cell HZ.out.s.hc 1
      have c2 := obj_cell HZ.out.s.hc 2
      have c3 := obj_cell HZ.out.s.hc 3
      have c4 := obj_cell HZ.out.s.hc 4
      have v0 := obj_cell HZ.out.hw 0
      have v1 := obj_cell HZ.out.hw 1
      have v2 := obj_cell HZ.out.hw 2
      have v3 := obj_cell HZ.out.hw 3
      go_wp2_with fail
      go_region_held3 (fun w' => w'.cell? ⟨w.heap.size, 0, none⟩ = some (.int .i64 a) ∧ w'.cell? ⟨w.heap.size, 1, none⟩ = some (.int .i64 b) ∧ w'.cell? ⟨w.heap.size, 2, none⟩ = some (.int .i64 c) ∧ w'.cell? ⟨w.heap.size, 3, none⟩ = some (.int .i64 d) ∧ w'.cell? ⟨w.heap.size + 1, 0, none⟩ = some (.int .i64 x) ∧ w'.cell? ⟨w.heap.size + 1, 1, none⟩ = some (.int .i64 y) ∧ w'.cell? ⟨w.heap.size + 1, 2, none⟩ = some (.int .i64 z) ∧ w'.cell? ⟨w.heap.size + 1, 3, none⟩ = some (.int .i64 u) ∧ w'.cell? ⟨w.heap.size + 1, 4, none⟩ = some (.int .i64 g) ∧ w'.cell? ⟨w8.heap.size, 0, none⟩ = some (.int .i64 p) ∧ w'.cell? ⟨w8.heap.size, 1, none⟩ = some (.int .i64 q) ∧ w'.cell? ⟨w8.heap.size, 2, none⟩ = some (.int .i64 r) ∧ w'.cell? ⟨w8.heap.size, 3, none⟩ = some (.int .i64 t)) (first | go_keep | exact ⟨m0, m1, m2, m3, c0, c1, c2, c3, c4, v0, v1, v2, v3⟩)
        (first | (go_at_call 12; refine (HMV.out _).mono ?_; rintro e wz ⟨rfl, hk⟩; have m0 := hk.cell m0 (not_no _); have m1 := hk.cell m1 (not_no _); have m2 := hk.cell m2 (not_no _); have m3 := hk.cell m3 (not_no _); have c0 := hk.cell c0 (not_no _); have c1 := hk.cell c1 (not_no _); have c2 := hk.cell c2 (not_no _); have c3 := hk.cell c3 (not_no _); have c4 := hk.cell c4 (not_no _); have v0 := hk.cell v0 (not_no _); have v1 := hk.cell v1 (not_no _); have v2 := hk.cell v2 (not_no _); have v3 := hk.cell v3 (not_no _); have HZ := Lib.hid (HZ.out.to (by first | exact hk | exact hk.of_drew)); clear hk) | (go_at_call 8; refine (HRV.out _).mono ?_; rintro e wz ⟨rfl, hk⟩; have m0 := hk.cell m0 (not_no _); have m1 := hk.cell m1 (not_no _); have m2 := hk.cell m2 (not_no _); have m3 := hk.cell m3 (not_no _); have c0 := hk.cell c0 (not_no _); have c1 := hk.cell c1 (not_no _); have c2 := hk.cell c2 (not_no _); have c3 := hk.cell c3 (not_no _); have c4 := hk.cell c4 (not_no _); have v0 := hk.cell v0 (not_no _); have v1 := hk.cell v1 (not_no _); have v2 := hk.cell v2 (not_no _); have v3 := hk.cell v3 (not_no _); have HZ := Lib.hid (HZ.out.to (by first | exact hk | exact hk.of_drew)); clear hk) | (go_at_call 13; refine (HMC.out _).mono ?_; rintro e wz ⟨rfl, hk⟩; have m0 := hk.cell m0 (not_no _); have m1 := hk.cell m1 (not_no _); have m2 := hk.cell m2 (not_no _); have m3 := hk.cell m3 (not_no _); have c0 := hk.cell c0 (not_no _); have c1 := hk.cell c1 (not_no _); have c2 := hk.cell c2 (not_no _); have c3 := hk.cell c3 (not_no _); have c4 := hk.cell c4 (not_no _); have v0 := hk.cell v0 (not_no _); have v1 := hk.cell v1 (not_no _); have v2 := hk.cell v2 (not_no _); have v3 := hk.cell v3 (not_no _); have HZ := Lib.hid (HZ.out.to (by first | exact hk | exact hk.of_drew)); clear hk) | (go_at_call 10; refine (HRC.out _).mono ?_; rintro e wz ⟨rfl, hk⟩; have m0 := hk.cell m0 (not_no _); have m1 := hk.cell m1 (not_no _); have m2 := hk.cell m2 (not_no _); have m3 := hk.cell m3 (not_no _); have c0 := hk.cell c0 (not_no _); have c1 := hk.cell c1 (not_no _); have c2 := hk.cell c2 (not_no _); have c3 := hk.cell c3 (not_no _); have c4 := hk.cell c4 (not_no _); have v0 := hk.cell v0 (not_no _); have v1 := hk.cell v1 (not_no _); have v2 := hk.cell v2 (not_no _); have v3 := hk.cell v3 (not_no _); have HZ := Lib.hid (HZ.out.to (by first | exact hk | exact hk.of_drew)); clear hk) | (go_at_call 14; refine (HTO.out _).mono ?_; rintro e wz ⟨rfl, hk⟩; have m0 := hk.cell m0 (not_no _); have m1 := hk.cell m1 (not_no _); have m2 := hk.cell m2 (not_no _); have m3 := hk.cell m3 (not_no _); have c0 := hk.cell c0 (not_no _); have c1 := hk.cell c1 (not_no _); have c2 := hk.cell c2 (not_no _); have c3 := hk.cell c3 (not_no _); have c4 := hk.cell c4 (not_no _); have v0 := hk.cell v0 (not_no _); have v1 := hk.cell v1 (not_no _); have v2 := hk.cell v2 (not_no _); have v3 := hk.cell v3 (not_no _); have HZ := Lib.hid (HZ.out.to (by first | exact hk | exact hk.of_drew)); clear hk) | (go_at_call 15; refine (HVA.out _).mono ?_; rintro e wz ⟨rfl, hk⟩; have m0 := hk.cell m0 (not_no _); have m1 := hk.cell m1 (not_no _); have m2 := hk.cell m2 (not_no _); have m3 := hk.cell m3 (not_no _); have c0 := hk.cell c0 (not_no _); have c1 := hk.cell c1 (not_no _); have c2 := hk.cell c2 (not_no _); have c3 := hk.cell c3 (not_no _); have c4 := hk.cell c4 (not_no _); have v0 := hk.cell v0 (not_no _); have v1 := hk.cell v1 (not_no _); have v2 := hk.cell v2 (not_no _); have v3 := hk.cell v3 (not_no _); have HZ := Lib.hid (HZ.out.to (by first | exact hk | exact hk.of_drew)); clear hk) | (go_at_call 16; refine (HSELF.out _).mono ?_; rintro e wz ⟨rfl, hk⟩; have m0 := hk.cell m0 (not_no _); have m1 := hk.cell m1 (not_no _); have m2 := hk.cell m2 (not_no _); have m3 := hk.cell m3 (not_no _); have c0 := hk.cell c0 (not_no _); have c1 := hk.cell c1 (not_no _); have c2 := hk.cell c2 (not_no _); have c3 := hk.cell c3 (not_no _); have c4 := hk.cell c4 (not_no _); have v0 := hk.cell v0 (not_no _); have v1 := hk.cell v1 (not_no _); have v2 := hk.cell v2 (not_no _); have v3 := hk.cell v3 (not_no _); have HZ := Lib.hid (HZ.out.to (by first | exact hk | exact hk.of_drew)); clear hk) | (go_at_call 17; refine (known_any _ ?_).mono ?_; (exact HE.out.kept HZ.out.s.kept); rintro e wz ⟨rfl, hk⟩; have m0 := hk.cell m0 (not_no _); have m1 := hk.cell m1 (not_no _); have m2 := hk.cell m2 (not_no _); have m3 := hk.cell m3 (not_no _); have c0 := hk.cell c0 (not_no _); have c1 := hk.cell c1 (not_no _); have c2 := hk.cell c2 (not_no _); have c3 := hk.cell c3 (not_no _); have c4 := hk.cell c4 (not_no _); have v0 := hk.cell v0 (not_no _); have v1 := hk.cell v1 (not_no _); have v2 := hk.cell v2 (not_no _); have v3 := hk.cell v3 (not_no _); have HZ := Lib.hid (HZ.out.to (by first | exact hk | exact hk.of_drew)); clear hk))
      all_goals go_wp2_with fail
      all_goals go_ret
      all_goals exact ⟨rfl, HZ.out.s.kept⟩
end Go.Proofs.YtogfjegedfaekaaDoor
