/-
  Mana: the reference's Pay, where it is paid.
-/
import Derived.Test.YtogfjegedfaekaaDoorWalkN
set_option linter.unusedVariables false
set_option linter.unusedSimpArgs false
namespace Go.Proofs.YtogfjegedfaekaaDoor
open Go.RowKit Go.Zn Go.Zm
attribute [local go_sem] Oper.semAt_some

set_option maxRecDepth 100000 in
set_option maxHeartbeats 4000000 in
theorem rpay_okG (a b c d x y z u g : Int) (G : Nat) (hg : g = (G : Nat)) (w : World) (h3 : canB a b c d x y z u g = true) : Calls Tryd.prog 18 #[.agg #[.int .i64 a, .int .i64 b, .int .i64 c, .int .i64 d], .agg #[.int .i64 x, .int .i64 y, .int .i64 z, .int .i64 u, .int .i64 g]] w fun e w' => e = .returned (.tuple #[.agg #[.int .i64 ((itr G (subM ⟨a, b, c, d⟩ ⟨x, y, z, u⟩)).a), .int .i64 ((itr G (subM ⟨a, b, c, d⟩ ⟨x, y, z, u⟩)).b), .int .i64 ((itr G (subM ⟨a, b, c, d⟩ ⟨x, y, z, u⟩)).c), .int .i64 ((itr G (subM ⟨a, b, c, d⟩ ⟨x, y, z, u⟩)).d)], .int .i64 0]) ∧ Kept No w w' := by
  obtain ⟨h, h2, hle, hsu⟩ := canB_out h3
  have hz0 : zero (misM ⟨x, y, z, u⟩ ⟨a, b, c, d⟩) (lack ⟨x, y, z, u⟩ ⟨a, b, c, d⟩ g) = !false := (zero_iff _ _ _).2 ⟨hle, hsu⟩
  obtain ⟨⟨a1, a2⟩, ⟨b1, b2⟩, ⟨e1, e2⟩, ⟨d1, d2⟩⟩ := in4_out h
  obtain ⟨hX, g1, g2⟩ := cost_out h2
  obtain ⟨⟨x1, x2⟩, ⟨y1, y2⟩, ⟨z1, z2⟩, ⟨u1, u2⟩⟩ := in4_out hX
  have HSTEP := Lib.hid (itr_step (subM ⟨a, b, c, d⟩ ⟨x, y, z, u⟩) (nn_sub hle))
  have HSU := Lib.hid hsu
  have hl2 : x ≤ a ∧ y ≤ b ∧ z ≤ c ∧ u ≤ d := hle
  obtain ⟨l1, l2, l3, l4⟩ := hl2
  have HG := Lib.hid hg
  clear hX hle hsu h3 hg
  obtain ⟨w1, hw1⟩ : ∃ w1, ((w.alloc (.cells #[.int .i64 a, .int .i64 b, .int .i64 c, .int .i64 d] 23)).alloc (.cells #[.int .i64 x, .int .i64 y, .int .i64 z, .int .i64 u, .int .i64 g] 25)).alloc (.cells #[.int .i64 0, .int .i64 0, .int .i64 0, .int .i64 0] 23) = w1 := ⟨_, rfl⟩
  have hb : w1.heap[w.heap.size]? = some (.cells #[.int .i64 a, .int .i64 b, .int .i64 c, .int .i64 d] 23 (0, 0)) := by rw [← hw1]; exact obj_alloc (obj_alloc (heap_alloc_new w _) _) _
  have hc : w1.heap[w.heap.size + 1]? = some (.cells #[.int .i64 x, .int .i64 y, .int .i64 z, .int .i64 u, .int .i64 g] 25 (0, 0)) := by rw [← hw1]; exact obj_alloc (World.alloc_at (by simp) _) _
  have hz : w1.heap[w.heap.size + 1 + 1]? = some (.cells #[.int .i64 0, .int .i64 0, .int .i64 0, .int .i64 0] 23 (0, 0)) := by rw [← hw1]; exact World.alloc_at (by simp) _
  have HK1 := Lib.hid (show Kept No w w1 by rw [← hw1]; exact (((Kept.refl No w).alloc _).alloc _).alloc _)
  have c0 := obj_cell hb 0
  have c1 := obj_cell hb 1
  have c2 := obj_cell hb 2
  have c3 := obj_cell hb 3
  have d0 := obj_cell hc 0
  have d1 := obj_cell hc 1
  have d2 := obj_cell hc 2
  have d3 := obj_cell hc 3
  have d4 := obj_cell hc 4
  have HB := Lib.hid hb
  have HC := Lib.hid hc
  have HZ := Lib.hid hz
  clear hb hc hz
  go_enter Tryd.func18, Tryd.ntmps18
  go_wp2_with fail
  refine (rvalid_any a b c d _).mono ?_
  rintro e w2 ⟨rfl, hk⟩
  have hb := hk.obj HB.out (not_no _)
  have hc := hk.obj HC.out (not_no _)
  have hz := hk.obj HZ.out (not_no _)
  have c0 := obj_cell hb 0
  have c1 := obj_cell hb 1
  have c2 := obj_cell hb 2
  have c3 := obj_cell hb 3
  have d0 := obj_cell hc 0
  have d1 := obj_cell hc 1
  have d2 := obj_cell hc 2
  have d3 := obj_cell hc 3
  have d4 := obj_cell hc 4
  have HB2 := Lib.hid hb
  have HC2 := Lib.hid hc
  have HZ2 := Lib.hid hz
  have HK2 := Lib.hid (HK1.out.and hk)
  clear hb hc hz hk
  rw [h]
  go_wp2_with fail
  refine (rvalidCost_any x y z u g _).mono ?_
  rintro e w3 ⟨rfl, hk⟩
  have hb := hk.obj HB2.out (not_no _)
  have hc := hk.obj HC2.out (not_no _)
  have hz := hk.obj HZ2.out (not_no _)
  have c0 := obj_cell hb 0
  have c1 := obj_cell hb 1
  have c2 := obj_cell hb 2
  have c3 := obj_cell hb 3
  have d0 := obj_cell hc 0
  have d1 := obj_cell hc 1
  have d2 := obj_cell hc 2
  have d3 := obj_cell hc 3
  have d4 := obj_cell hc 4
  have HB3 := Lib.hid hb
  have HC3 := Lib.hid hc
  have HZ3 := Lib.hid hz
  have HK3 := Lib.hid (HK2.out.and hk)
  clear hb hc hz hk
  rw [h2]
  have HM := Lib.hid (fun W => rmiss_ok a b c d x y z u g W h h2)
  have hnq : ∀ W, Sem.run Tryd.prog (binOp .neq 25 (.agg #[.int .i64 (mis x a), .int .i64 (mis y b), .int .i64 (mis z c), .int .i64 (mis u d), .int .i64 (lack ⟨x, y, z, u⟩ ⟨a, b, c, d⟩ g)]) (.agg #[.int .i64 0, .int .i64 0, .int .i64 0, .int .i64 0, .int .i64 0])) W = .ok (.bool false) W := fun W => by
    rw [neq5]
    have e : q5 (mis x a) (mis y b) (mis z c) (mis u d) (lack ⟨x, y, z, u⟩ ⟨a, b, c, d⟩ g) 0 0 0 0 0 = !false := hz0
    rw [e]
    rfl
  clear h h2 hz0
  obtain ⟨w4, hw4⟩ : ∃ w4, w3.alloc (.cells #[.int .i64 0, .int .i64 0, .int .i64 0, .int .i64 0, .int .i64 0] 25) = w4 := ⟨_, rfl⟩
  have hb := obj_alloc HB3.out (.cells #[.int .i64 0, .int .i64 0, .int .i64 0, .int .i64 0, .int .i64 0] 25)
  have hc := obj_alloc HC3.out (.cells #[.int .i64 0, .int .i64 0, .int .i64 0, .int .i64 0, .int .i64 0] 25)
  have hz := obj_alloc HZ3.out (.cells #[.int .i64 0, .int .i64 0, .int .i64 0, .int .i64 0, .int .i64 0] 25)
  have hn := heap_alloc_new w3 (.cells #[.int .i64 0, .int .i64 0, .int .i64 0, .int .i64 0, .int .i64 0] 25)
  rw [hw4] at hb hc hz hn
  have HK4 := Lib.hid (show Kept No w w4 by rw [← hw4]; exact HK3.out.alloc _)
  have c0 := obj_cell hb 0
  have c1 := obj_cell hb 1
  have c2 := obj_cell hb 2
  have c3 := obj_cell hb 3
  have d0 := obj_cell hc 0
  have d1 := obj_cell hc 1
  have d2 := obj_cell hc 2
  have d3 := obj_cell hc 3
  have d4 := obj_cell hc 4
  have n0 := obj_cell hn 0
  have n1 := obj_cell hn 1
  have n2 := obj_cell hn 2
  have n3 := obj_cell hn 3
  have n4 := obj_cell hn 4
  have HB4 := Lib.hid hb
  have HC4 := Lib.hid hc
  have HZ4 := Lib.hid hz
  clear hb hc hz hn
  go_wp2_with fail
  go_region_held3 (fun w' => w'.cell? ⟨w.heap.size, 0, none⟩ = some (.int .i64 a) ∧ w'.cell? ⟨w.heap.size, 1, none⟩ = some (.int .i64 b) ∧ w'.cell? ⟨w.heap.size, 2, none⟩ = some (.int .i64 c) ∧ w'.cell? ⟨w.heap.size, 3, none⟩ = some (.int .i64 d) ∧ w'.cell? ⟨w.heap.size + 1, 0, none⟩ = some (.int .i64 x) ∧ w'.cell? ⟨w.heap.size + 1, 1, none⟩ = some (.int .i64 y) ∧ w'.cell? ⟨w.heap.size + 1, 2, none⟩ = some (.int .i64 z) ∧ w'.cell? ⟨w.heap.size + 1, 3, none⟩ = some (.int .i64 u) ∧ w'.cell? ⟨w.heap.size + 1, 4, none⟩ = some (.int .i64 g) ∧ w'.cell? ⟨w3.heap.size, 0, none⟩ = some (.int .i64 0) ∧ w'.cell? ⟨w3.heap.size, 1, none⟩ = some (.int .i64 0) ∧ w'.cell? ⟨w3.heap.size, 2, none⟩ = some (.int .i64 0) ∧ w'.cell? ⟨w3.heap.size, 3, none⟩ = some (.int .i64 0) ∧ w'.cell? ⟨w3.heap.size, 4, none⟩ = some (.int .i64 0)) (go_keep)
    ((go_at_call 19; refine (HM.out _).mono ?_; rintro e w5 ⟨rfl, hk⟩; have m0 := hk.cell c0 (not_no _); have m1 := hk.cell c1 (not_no _); have m2 := hk.cell c2 (not_no _); have m3 := hk.cell c3 (not_no _); have m4 := hk.cell d0 (not_no _); have m5 := hk.cell d1 (not_no _); have m6 := hk.cell d2 (not_no _); have m7 := hk.cell d3 (not_no _); have m8 := hk.cell d4 (not_no _); have m9 := hk.cell n0 (not_no _); have m10 := hk.cell n1 (not_no _); have m11 := hk.cell n2 (not_no _); have m12 := hk.cell n3 (not_no _); have m13 := hk.cell n4 (not_no _); have HB5 := Lib.hid (hk.obj HB4.out (not_no _)); have HC5 := Lib.hid (hk.obj HC4.out (not_no _)); have HZ5 := Lib.hid (hk.obj HZ4.out (not_no _)); have HK5 := Lib.hid (HK4.out.and hk.of_drew); clear hk))
  clear m0 m1 m2 m3 m4 m5 m6 m7 m8 m9 m10 m11 m12 m13
  go_wp2_with fail
  go_loopw [7] (fun i wr => ∃ k : Nat, i = .int .i64 (k : Nat) ∧ k ≤ 4 ∧ PW (sK ⟨a, b, c, d⟩ ⟨x, y, z, u⟩ k) x y z u g w wr) (fun i _ => 4 - (intOf i).toNat)
  case atStart => exact ⟨0, rfl, by decide, HB5.out, HC5.out, HZ5.out, HK5.out⟩
  case round =>
    obtain ⟨k, rfl, hk4, hp⟩ := hrel
    obtain rfl | rfl | rfl | rfl | rfl : k = 0 ∨ k = 1 ∨ k = 2 ∨ k = 3 ∨ k = 4 := by omega
    · have c0 : wr.cell? ⟨w.heap.size, 0, none⟩ = some (.int .i64 a) := obj_cell hp.hm 0
      have d0 : wr.cell? ⟨w.heap.size + 1, 0, none⟩ = some (.int .i64 x) := obj_cell hp.hc 0
      have fm : wr.frozen? ⟨w.heap.size, 0, none⟩ = false := obj_free hp.hm 0
      have hws : IntKind.i64.wrap (a - x) = a - x := IntWalk.i64_in _ (by omega)
      have HP := Lib.hid hp
      clear hp
      go_wp2_with fail
      go_still_tail 10, (by kernel_rfl)
      go_wp2_with fail
      exact ⟨⟨1, by go_num, by decide, (by first | exact HP.out.drew.put 0 (by decide) _ | exact (HP.out.drewN _).put 0 (by decide) _)⟩, by simp [intOf]⟩
    · have c1 : wr.cell? ⟨w.heap.size, 1, none⟩ = some (.int .i64 b) := obj_cell hp.hm 1
      have d1 : wr.cell? ⟨w.heap.size + 1, 1, none⟩ = some (.int .i64 y) := obj_cell hp.hc 1
      have fm : wr.frozen? ⟨w.heap.size, 1, none⟩ = false := obj_free hp.hm 1
      have hws : IntKind.i64.wrap (b - y) = b - y := IntWalk.i64_in _ (by omega)
      have HP := Lib.hid hp
      clear hp
      go_wp2_with fail
      go_still_tail 10, (by kernel_rfl)
      go_wp2_with fail
      exact ⟨⟨2, by go_num, by decide, (by first | exact HP.out.drew.put 1 (by decide) _ | exact (HP.out.drewN _).put 1 (by decide) _)⟩, by simp [intOf]⟩
    · have c2 : wr.cell? ⟨w.heap.size, 2, none⟩ = some (.int .i64 c) := obj_cell hp.hm 2
      have d2 : wr.cell? ⟨w.heap.size + 1, 2, none⟩ = some (.int .i64 z) := obj_cell hp.hc 2
      have fm : wr.frozen? ⟨w.heap.size, 2, none⟩ = false := obj_free hp.hm 2
      have hws : IntKind.i64.wrap (c - z) = c - z := IntWalk.i64_in _ (by omega)
      have HP := Lib.hid hp
      clear hp
      go_wp2_with fail
      go_still_tail 10, (by kernel_rfl)
      go_wp2_with fail
      exact ⟨⟨3, by go_num, by decide, (by first | exact HP.out.drew.put 2 (by decide) _ | exact (HP.out.drewN _).put 2 (by decide) _)⟩, by simp [intOf]⟩
    · have c3 : wr.cell? ⟨w.heap.size, 3, none⟩ = some (.int .i64 d) := obj_cell hp.hm 3
      have d3 : wr.cell? ⟨w.heap.size + 1, 3, none⟩ = some (.int .i64 u) := obj_cell hp.hc 3
      have fm : wr.frozen? ⟨w.heap.size, 3, none⟩ = false := obj_free hp.hm 3
      have hws : IntKind.i64.wrap (d - u) = d - u := IntWalk.i64_in _ (by omega)
      have HP := Lib.hid hp
      clear hp
      go_wp2_with fail
      go_still_tail 10, (by kernel_rfl)
      go_wp2_with fail
      exact ⟨⟨4, by go_num, by decide, (by first | exact HP.out.drew.put 3 (by decide) _ | exact (HP.out.drewN _).put 3 (by decide) _)⟩, by simp [intOf]⟩
    · obtain ⟨s, hs⟩ : ∃ s, subM ⟨a, b, c, d⟩ ⟨x, y, z, u⟩ = s := ⟨_, rfl⟩
      have hp' : PW s x y z u g w wr := by rw [← hs]; exact hp
      have d4 : wr.cell? ⟨w.heap.size + 1, 4, none⟩ = some (.int .i64 (G : Nat)) := by rw [← HG.out]; exact obj_cell hp.hc 4
      have hst := HSTEP.out
      have hsu := HSU.out
      rw [hs] at hst hsu
      have hsb : s.a ≤ 99 ∧ s.b ≤ 99 ∧ s.c ≤ 99 ∧ s.d ≤ 99 := by rw [← hs]; simp only [subM]; omega
      have HST := Lib.hid hst
      have HSU2 := Lib.hid hsu
      have HSB := Lib.hid hsb
      have HS := Lib.hid hs
      have HP := Lib.hid hp'
      clear hp hp' hst hsu hsb hs HSTEP HSU hk4
      go_wp2_with fail
      go_loopw [8] (fun i wr => ∃ n : Nat, i = .int .i64 (n : Nat) ∧ n ≤ G ∧ PW (itr n s) x y z u g w wr) (fun i _ => G - (intOf i).toNat)
      case atStart => exact ⟨0, rfl, Nat.zero_le _, HP.out⟩
      case round =>
        obtain ⟨n, rfl, hn, hp⟩ := hrel
        obtain ⟨v, hv⟩ : ∃ v, itr n s = v := ⟨_, rfl⟩
        have hst := HST.out n (by have := HSU2.out; have := HG.out; omega)
        have hsb := HSB.out
        rw [hv] at hp hst
        have hvb : (0 ≤ v.a ∧ v.a ≤ 99) ∧ (0 ≤ v.b ∧ v.b ≤ 99) ∧ (0 ≤ v.c ∧ v.c ≤ 99) ∧ (0 ≤ v.d ∧ v.d ≤ 99) := by
          obtain ⟨t1, t2, _⟩ := hst
          unfold Nn Le at *
          omega
        have HV := Lib.hid hv
        clear hv hst hsb
        obtain ⟨p, q, r, t⟩ := v
        have HPM := Lib.hid (fun W => rmost_any p q r t W hvb)
        obtain ⟨⟨p0, p1⟩, ⟨q0, q1⟩, ⟨r0, r1⟩, ⟨t0, t1⟩⟩ := hvb
        have c0 : wr.cell? ⟨w.heap.size, 0, none⟩ = some (.int .i64 p) := obj_cell hp.hm 0
        have c1 : wr.cell? ⟨w.heap.size, 1, none⟩ = some (.int .i64 q) := obj_cell hp.hm 1
        have c2 : wr.cell? ⟨w.heap.size, 2, none⟩ = some (.int .i64 r) := obj_cell hp.hm 2
        have c3 : wr.cell? ⟨w.heap.size, 3, none⟩ = some (.int .i64 t) := obj_cell hp.hm 3
        have d4 : wr.cell? ⟨w.heap.size + 1, 4, none⟩ = some (.int .i64 (G : Nat)) := by rw [← HG.out]; exact obj_cell hp.hc 4
        have HP := Lib.hid hp
        clear hp
        by_cases hlt : n < G
        · have hG20 : (G : Int) ≤ 20 := by have := HG.out; omega
          have HLT := Lib.hid hlt
          have hc4 := mx_cases ⟨p, q, r, t⟩
          have hj4 : mx ⟨p, q, r, t⟩ < 4 := by omega
          clear hc4
          obtain ⟨jj, hj⟩ : ∃ jj, mx ⟨p, q, r, t⟩ = jj := ⟨_, rfl⟩
          rw [hj] at HPM hj4
          have HMX := Lib.hid hj
          clear hj
          obtain rfl | rfl | rfl | rfl : jj = 0 ∨ jj = 1 ∨ jj = 2 ∨ jj = 3 := by omega
          · go_wp2_with fail
            refine (HPM.out _).mono ?_
            rintro e w6 ⟨rfl, hk⟩
            have HPI := Lib.hid (HP.out.to hk)
            clear hk
            have c0 : w6.cell? ⟨w.heap.size, 0, none⟩ = some (.int .i64 p) := obj_cell HPI.out.hm 0
            have fm : w6.frozen? ⟨w.heap.size, 0, none⟩ = false := obj_free HPI.out.hm 0
            go_wp2_with fail
            have e : itr (n + 1) s = Zm.put ⟨p, q, r, t⟩ 0 (p - 1) := by
              show dec (itr n s) = _
              rw [HV.out]
              unfold dec
              rw [HMX.out]
              rfl
            have hl9 := HLT.out
            have HPN : PW (itr (n + 1) s) x y z u g w _ := e ▸ HPI.out.put 0 (by decide) (p - 1)
            go_roundw
            case rel =>
              (repeat apply Exists.intro)
              exact ⟨⟨n + 1, by go_num, by omega, HPN⟩, rfl⟩
            case measure => simp [intOf]; omega
          · go_wp2_with fail
            refine (HPM.out _).mono ?_
            rintro e w6 ⟨rfl, hk⟩
            have HPI := Lib.hid (HP.out.to hk)
            clear hk
            have c1 : w6.cell? ⟨w.heap.size, 1, none⟩ = some (.int .i64 q) := obj_cell HPI.out.hm 1
            have fm : w6.frozen? ⟨w.heap.size, 1, none⟩ = false := obj_free HPI.out.hm 1
            go_wp2_with fail
            have e : itr (n + 1) s = Zm.put ⟨p, q, r, t⟩ 1 (q - 1) := by
              show dec (itr n s) = _
              rw [HV.out]
              unfold dec
              rw [HMX.out]
              rfl
            have hl9 := HLT.out
            have HPN : PW (itr (n + 1) s) x y z u g w _ := e ▸ HPI.out.put 1 (by decide) (q - 1)
            go_roundw
            case rel =>
              (repeat apply Exists.intro)
              exact ⟨⟨n + 1, by go_num, by omega, HPN⟩, rfl⟩
            case measure => simp [intOf]; omega
          · go_wp2_with fail
            refine (HPM.out _).mono ?_
            rintro e w6 ⟨rfl, hk⟩
            have HPI := Lib.hid (HP.out.to hk)
            clear hk
            have c2 : w6.cell? ⟨w.heap.size, 2, none⟩ = some (.int .i64 r) := obj_cell HPI.out.hm 2
            have fm : w6.frozen? ⟨w.heap.size, 2, none⟩ = false := obj_free HPI.out.hm 2
            go_wp2_with fail
            have e : itr (n + 1) s = Zm.put ⟨p, q, r, t⟩ 2 (r - 1) := by
              show dec (itr n s) = _
              rw [HV.out]
              unfold dec
              rw [HMX.out]
              rfl
            have hl9 := HLT.out
            have HPN : PW (itr (n + 1) s) x y z u g w _ := e ▸ HPI.out.put 2 (by decide) (r - 1)
            go_roundw
            case rel =>
              (repeat apply Exists.intro)
              exact ⟨⟨n + 1, by go_num, by omega, HPN⟩, rfl⟩
            case measure => simp [intOf]; omega
          · go_wp2_with fail
            refine (HPM.out _).mono ?_
            rintro e w6 ⟨rfl, hk⟩
            have HPI := Lib.hid (HP.out.to hk)
            clear hk
            have c3 : w6.cell? ⟨w.heap.size, 3, none⟩ = some (.int .i64 t) := obj_cell HPI.out.hm 3
            have fm : w6.frozen? ⟨w.heap.size, 3, none⟩ = false := obj_free HPI.out.hm 3
            go_wp2_with fail
            have e : itr (n + 1) s = Zm.put ⟨p, q, r, t⟩ 3 (t - 1) := by
              show dec (itr n s) = _
              rw [HV.out]
              unfold dec
              rw [HMX.out]
              rfl
            have hl9 := HLT.out
            have HPN : PW (itr (n + 1) s) x y z u g w _ := e ▸ HPI.out.put 3 (by decide) (t - 1)
            go_roundw
            case rel =>
              (repeat apply Exists.intro)
              exact ⟨⟨n + 1, by go_num, by omega, HPN⟩, rfl⟩
            case measure => simp [intOf]; omega
        · obtain rfl : n = G := by omega
          have hp := HP.out
          have z0 := obj_cell hp.hz 0
          have z1 := obj_cell hp.hz 1
          have z2 := obj_cell hp.hz 2
          have z3 := obj_cell hp.hz 3
          have f0 := obj_free hp.hz 0
          have f1 := obj_free hp.hz 1
          have f2 := obj_free hp.hz 2
          have f3 := obj_free hp.hz 3
          have HZ9 := Lib.hid hp.hz
          have HK9 := Lib.hid hp.kept
          clear hp
          have hw' : itr n (subM ⟨a, b, c, d⟩ ⟨x, y, z, u⟩) = ⟨p, q, r, t⟩ := by rw [HS.out]; exact HV.out
          have HW := Lib.hid hw'
          clear hw'
          go_wp2_with fail
          have k1 := obj_store (obj_store (obj_store (obj_store HZ9.out 0 (.int .i64 p)) 1 (.int .i64 q)) 2 (.int .i64 r)) 3 (.int .i64 t)
          refine bodyPost_ret (results18 rfl rfl k1 rfl) rfl ⟨congrArg (fun v : M4 => Ending.returned (.tuple #[.agg #[.int .i64 v.a, .int .i64 v.b, .int .i64 v.c, .int .i64 v.d], .int .i64 0])) HW.out.symm, ?_⟩
          have hn : ∀ (h : w.heap.size + 1 + 1 < w.heap.size), No (w.heap.size + 1 + 1) := fun h => by omega
          exact ((((HK9.out).setCell (p := ⟨w.heap.size + 1 + 1, 0, none⟩) hn _).setCell (p := ⟨w.heap.size + 1 + 1, 1, none⟩) hn _).setCell (p := ⟨w.heap.size + 1 + 1, 2, none⟩) hn _).setCell (p := ⟨w.heap.size + 1 + 1, 3, none⟩) hn _
end Go.Proofs.YtogfjegedfaekaaDoor
