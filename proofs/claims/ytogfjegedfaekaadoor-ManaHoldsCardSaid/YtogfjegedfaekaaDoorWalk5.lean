/-
  Mana: the walk of ManaHolds, where one cannot pay.
-/
import Derived.Test.YtogfjegedfaekaaDoorWalk4
set_option linter.unusedVariables false
set_option linter.unusedSimpArgs false
namespace Go.Proofs.YtogfjegedfaekaaDoor
open Go.RowKit Go.Zn Go.Zm
attribute [local go_sem] Oper.semAt_some

theorem mo2_up0 (a b c d e f h i n : Int) (h0 : n % 4 = 0) : mo2 a b c d e f h i (n + 1) = (mo2 a b c d e f h i n).setIfInBounds 0 (.int .i64 (a + e + (n + 3) / 4 + 1)) := by
  have q0 : (n + 1 + 3) / 4 = (n + 3) / 4 + 1 := by omega
  have q1 : (n + 1 + 2) / 4 = (n + 2) / 4 := by omega
  have q2 : (n + 1 + 1) / 4 = (n + 1) / 4 := by omega
  have q3 : (n + 1 + 0) / 4 = (n + 0) / 4 := by omega
  unfold mo2
  rw [q0, q1, q2, q3]
  simp
  omega
theorem mo2_up1 (a b c d e f h i n : Int) (h0 : n % 4 = 1) : mo2 a b c d e f h i (n + 1) = (mo2 a b c d e f h i n).setIfInBounds 1 (.int .i64 (b + f + (n + 2) / 4 + 1)) := by
  have q0 : (n + 1 + 3) / 4 = (n + 3) / 4 := by omega
  have q1 : (n + 1 + 2) / 4 = (n + 2) / 4 + 1 := by omega
  have q2 : (n + 1 + 1) / 4 = (n + 1) / 4 := by omega
  have q3 : (n + 1 + 0) / 4 = (n + 0) / 4 := by omega
  unfold mo2
  rw [q0, q1, q2, q3]
  simp
  omega
theorem mo2_up2 (a b c d e f h i n : Int) (h0 : n % 4 = 2) : mo2 a b c d e f h i (n + 1) = (mo2 a b c d e f h i n).setIfInBounds 2 (.int .i64 (c + h + (n + 1) / 4 + 1)) := by
  have q0 : (n + 1 + 3) / 4 = (n + 3) / 4 := by omega
  have q1 : (n + 1 + 2) / 4 = (n + 2) / 4 := by omega
  have q2 : (n + 1 + 1) / 4 = (n + 1) / 4 + 1 := by omega
  have q3 : (n + 1 + 0) / 4 = (n + 0) / 4 := by omega
  unfold mo2
  rw [q0, q1, q2, q3]
  simp
  omega
theorem mo2_up3 (a b c d e f h i n : Int) (h0 : n % 4 = 3) : mo2 a b c d e f h i (n + 1) = (mo2 a b c d e f h i n).setIfInBounds 3 (.int .i64 (d + i + (n + 0) / 4 + 1)) := by
  have q0 : (n + 1 + 3) / 4 = (n + 3) / 4 := by omega
  have q1 : (n + 1 + 2) / 4 = (n + 2) / 4 := by omega
  have q2 : (n + 1 + 1) / 4 = (n + 1) / 4 := by omega
  have q3 : (n + 1 + 0) / 4 = (n + 0) / 4 + 1 := by omega
  unfold mo2
  rw [q0, q1, q2, q3]
  simp
  omega
theorem mo2_zero (a b c d e f h i : Int) : mo2 a b c d e f h i ((0 : Nat) : Int) = mo1 a b c d e f h i 4 := by simp [mo1, mo2]
theorem more_ok {a b c d e f h i L x y z u g : Int} (hL : 0 ≤ L) (kle : x ≤ a + e ∧ y ≤ b + f ∧ z ≤ c + h ∧ u ≤ d + i) (kg : g ≤ (a + e - x) + (b + f - y) + (c + h - z) + (d + i - u) + L) : (x ≤ a + e + (L + 3) / 4 ∧ y ≤ b + f + (L + 2) / 4 ∧ z ≤ c + h + (L + 1) / 4 ∧ u ≤ d + i + (L + 0) / 4) ∧ g ≤ (a + e + (L + 3) / 4 - x) + (b + f + (L + 2) / 4 - y) + (c + h + (L + 1) / 4 - z) + (d + i + (L + 0) / 4 - u) := by omega
theorem sum_less {e f h i L x y z u g : Int} (he : 0 ≤ e ∧ e ≤ x) (hf : 0 ≤ f ∧ f ≤ y) (hh : 0 ≤ h ∧ h ≤ z) (h9 : 0 ≤ i ∧ i ≤ u) (hL : 0 ≤ L ∧ L ≤ g) : decide (x + y + z + u + g < e + f + h + i + L) = false := decide_eq_false (by omega)
structure SQ (A C B M D E : Array Value) (w0 : World) (gl gm go gs : Nat) (wr : World) : Prop where
  m : SM A C B M D w0 gl gm go wr
  hq : wr.heap[gs]? = some (.cells E 23 (0, 0))
  lt4 : go < gs
theorem SQ.to {A C B M D E : Array Value} {w0 wr w' : World} {gl gm go gs : Nat} (h : SQ A C B M D E w0 gl gm go gs wr) (hk : Kept No wr w') : SQ A C B M D E w0 gl gm go gs w' := ⟨h.m.to hk, hk.obj h.hq (not_no _), h.lt4⟩
theorem SQ.put {A C B M D E : Array Value} {w0 wr : World} {gl gm go gs : Nat} (h : SQ A C B M D E w0 gl gm go gs wr) (k : Nat) (v : Value) : SQ A C B M D (E.setIfInBounds k v) w0 gl gm go gs (wr.setCell ⟨gs, k, none⟩ v) := by
  have h0 := h.lt4
  have h1 := h.m.lt3
  have h2 := h.m.l.lt2
  have h3 := h.m.l.lt1
  exact ⟨⟨⟨⟨obj_setCell h.m.l.s.hm _ (by simp; omega), obj_setCell h.m.l.s.hc _ (by simp; omega), h.m.l.s.kept.setCell (fun k => by simp at k; omega) _⟩, obj_setCell h.m.l.hl _ (by simp; omega), obj_setCell h.m.l.hx _ (by simp; omega), h3, h2⟩, obj_setCell h.m.ho _ (by simp; omega), h1⟩, obj_store h.hq k v, h0⟩
set_option maxRecDepth 100000 in
set_option maxHeartbeats 16000000 in
theorem holds_not (a b c d x y z u g : Int) (w : World) (hE : Errs w) (hi : in4 99 a b c d = true) (hj : cost x y z u g = true) (hc : canB a b c d x y z u g = false) : Calls Tryd.prog 6 #[.agg #[.int .i64 a, .int .i64 b, .int .i64 c, .int .i64 d], .agg #[.int .i64 x, .int .i64 y, .int .i64 z, .int .i64 u, .int .i64 g]] w fun e w' => e = .returned (.bool true) ∧ Kept No w w' := by
  have HE := Lib.hid hE
  clear hE
  obtain ⟨w1, hw1⟩ : ∃ w1, (w.alloc (.cells #[.int .i64 a, .int .i64 b, .int .i64 c, .int .i64 d] 23)).alloc (.cells #[.int .i64 x, .int .i64 y, .int .i64 z, .int .i64 u, .int .i64 g] 25) = w1 := ⟨_, rfl⟩
  have H1 := Lib.hid (show S2 #[.int .i64 a, .int .i64 b, .int .i64 c, .int .i64 d] #[.int .i64 x, .int .i64 y, .int .i64 z, .int .i64 u, .int .i64 g] w w1 by rw [← hw1]; exact S2.start w)
  have m0 := obj_cell H1.out.hm 0
  have m1 := obj_cell H1.out.hm 1
  have m2 := obj_cell H1.out.hm 2
  have m3 := obj_cell H1.out.hm 3
  have c0 := obj_cell H1.out.hc 0
  have c1 := obj_cell H1.out.hc 1
  have c2 := obj_cell H1.out.hc 2
  have c3 := obj_cell H1.out.hc 3
  have c4 := obj_cell H1.out.hc 4
  have HMV := Lib.hid (fun W => (show Calls Tryd.prog 12 #[.agg #[.int .i64 a, .int .i64 b, .int .i64 c, .int .i64 d]] W fun e w' => e = .returned (.bool true) ∧ Kept No W w' from hi ▸ valid_any a b c d W))
  have HMC := Lib.hid (fun W => (show Calls Tryd.prog 13 #[.agg #[.int .i64 x, .int .i64 y, .int .i64 z, .int .i64 u, .int .i64 g]] W fun e w' => e = .returned (.bool true) ∧ Kept No W w' from hj ▸ validCost_any x y z u g W))
  have HTX := Lib.hid (fun W => k_text hj W)
  have hgt := good_text hj
  obtain ⟨l, hl⟩ : ∃ l, costT x.toNat y.toNat z.toNat u.toNat g.toNat = l := ⟨_, rfl⟩
  rw [hl] at HTX hgt
  have HPS := Lib.hid (fun W hE => k_good hgt.1 hgt.2 W hE (by have := pOk_len hgt.1; unfold maxLen; omega))
  clear hgt hl
  have hpe : payE a b c d x y z u g = 12 := by simp [payE, hi, hj, hc]
  have HPY := Lib.hid (fun W => pay_any a b c d x y z u g W)
  have HMI := Lib.hid (fun W => miss_any a b c d x y z u g W)
  have HCA := Lib.hid (fun W => (show Calls Tryd.prog 21 #[.agg #[.int .i64 a, .int .i64 b, .int .i64 c, .int .i64 d], .agg #[.int .i64 x, .int .i64 y, .int .i64 z, .int .i64 u, .int .i64 g]] W fun e w' => e = .returned (.bool false) ∧ Kept No W w' from hc ▸ can_any a b c d x y z u g W))
  obtain ⟨e, f, h, i, L, hM, he, hf, hh, h9, hL, hone, k0, k1, k2, k3, kle, kg⟩ := miss_facts hi hj hc
  have hcm := cost_of_miss hj he hf hh h9 hL
  have HKF := Lib.hid (And.intro k0 (And.intro k1 (And.intro k2 (And.intro k3 (And.intro kle kg)))))
  clear k0 k1 k2 k3 kle kg
  have heq : ∀ W, Sem.run Tryd.prog (binOp .eql 25 (.agg #[.int .i64 e, .int .i64 f, .int .i64 h, .int .i64 i, .int .i64 L]) (.agg #[.int .i64 0, .int .i64 0, .int .i64 0, .int .i64 0, .int .i64 0])) W = .ok (.bool false) W := fun W => by
    have hq : q5 e f h i L 0 0 0 0 0 = false := by
      rw [q5_zero, Bool.eq_false_iff]
      intro hh
      simp only [Bool.and_eq_true, beq_iff_eq] at hh
      omega
    rw [eql5, hq]
  obtain ⟨⟨p, q, r, t⟩, hP⟩ : ∃ v, payM a b c d x y z u g = v := ⟨_, rfl⟩
  rw [hP, hpe] at HPY
  rw [hM] at HMI
  clear hP hM hpe
  obtain ⟨⟨a1, a2⟩, ⟨b1, b2⟩, ⟨y9, y8⟩, ⟨d1, d2⟩⟩ := in4_out hi
  obtain ⟨hX, g1, g2⟩ := cost_out hj
  obtain ⟨⟨x1, x2⟩, ⟨y1, y2⟩, ⟨z1, z2⟩, ⟨u1, u2⟩⟩ := in4_out hX
  have HVM := Lib.hid (fun W => (show Calls Tryd.prog 15 #[.agg #[.int .i64 e, .int .i64 f, .int .i64 h, .int .i64 i, .int .i64 L]] W fun e9 w' => e9 = .returned (.int .i64 (e + f + h + i + L)) ∧ Kept No W w' from (value_any e f h i L W).mono fun e9 w' ⟨he9, hk⟩ => ⟨he9.trans (by unfold val; rw [hcm]; rfl), hk⟩))
  have HVC := Lib.hid (fun W => (show Calls Tryd.prog 15 #[.agg #[.int .i64 x, .int .i64 y, .int .i64 z, .int .i64 u, .int .i64 g]] W fun e9 w' => e9 = .returned (.int .i64 (x + y + z + u + g)) ∧ Kept No W w' from (value_any x y z u g W).mono fun e9 w' ⟨he9, hk⟩ => ⟨he9.trans (by unfold val; rw [hj]; rfl), hk⟩))
  have HJ := Lib.hid hj
  clear hi hj hc hcm
  clear hX
  go_enter Tryd.func6, Tryd.ntmps6
  go_wp2_with fail
  refine (HMV.out _).mono ?_
  rintro e9 w2 ⟨rfl, hk⟩
  have H2 := Lib.hid (H1.out.to hk)
  clear hk
  have m0 := obj_cell H2.out.hm 0
  have m1 := obj_cell H2.out.hm 1
  have m2 := obj_cell H2.out.hm 2
  have m3 := obj_cell H2.out.hm 3
  have c0 := obj_cell H2.out.hc 0
  have c1 := obj_cell H2.out.hc 1
  have c2 := obj_cell H2.out.hc 2
  have c3 := obj_cell H2.out.hc 3
  have c4 := obj_cell H2.out.hc 4
  go_wp2_with fail
  refine (HMC.out _).mono ?_
  rintro e9 w3 ⟨rfl, hk⟩
  have H3 := Lib.hid (H2.out.to hk)
  clear hk
  have m0 := obj_cell H3.out.hm 0
  have m1 := obj_cell H3.out.hm 1
  have m2 := obj_cell H3.out.hm 2
  have m3 := obj_cell H3.out.hm 3
  have c0 := obj_cell H3.out.hc 0
  have c1 := obj_cell H3.out.hc 1
  have c2 := obj_cell H3.out.hc 2
  have c3 := obj_cell H3.out.hc 3
  have c4 := obj_cell H3.out.hc 4
  go_wp2_with fail
  refine (HTX.out _).mono ?_
  rintro e9 w4 ⟨rfl, hk⟩
  have H4 := Lib.hid (H3.out.to hk)
  clear hk
  have m0 := obj_cell H4.out.hm 0
  have m1 := obj_cell H4.out.hm 1
  have m2 := obj_cell H4.out.hm 2
  have m3 := obj_cell H4.out.hm 3
  have c0 := obj_cell H4.out.hc 0
  have c1 := obj_cell H4.out.hc 1
  have c2 := obj_cell H4.out.hc 2
  have c3 := obj_cell H4.out.hc 3
  have c4 := obj_cell H4.out.hc 4
  go_wp2_with fail
  refine (HPS.out _ (HE.out.kept H4.out.kept)).mono ?_
  rintro e9 w5 ⟨rfl, hk⟩
  have H5 := Lib.hid (H4.out.to hk)
  clear hk
  have m0 := obj_cell H5.out.hm 0
  have m1 := obj_cell H5.out.hm 1
  have m2 := obj_cell H5.out.hm 2
  have m3 := obj_cell H5.out.hm 3
  have c0 := obj_cell H5.out.hc 0
  have c1 := obj_cell H5.out.hc 1
  have c2 := obj_cell H5.out.hc 2
  have c3 := obj_cell H5.out.hc 3
  have c4 := obj_cell H5.out.hc 4
  go_wp2_with fail
  refine (HPY.out _).mono ?_
  rintro e9 w6 ⟨rfl, hk⟩
  obtain ⟨w7, hw7⟩ : ∃ w7, w6.alloc (.cells #[.int .i64 p, .int .i64 q, .int .i64 r, .int .i64 t] 23) = w7 := ⟨_, rfl⟩
  obtain ⟨gl, hgl⟩ : ∃ gl, w6.heap.size = gl := ⟨_, rfl⟩
  have H7 := Lib.hid (show S2 #[.int .i64 a, .int .i64 b, .int .i64 c, .int .i64 d] #[.int .i64 x, .int .i64 y, .int .i64 z, .int .i64 u, .int .i64 g] w w7 by rw [← hw7]; exact (H5.out.to hk).to ((Kept.refl No w6).alloc _))
  have HL7 := Lib.hid (show w7.heap[gl]? = some (.cells #[.int .i64 p, .int .i64 q, .int .i64 r, .int .i64 t] 23 (0, 0)) by rw [← hw7, ← hgl]; exact heap_alloc_new w6 _)
  have HG7 := Lib.hid (show w.heap.size + 1 < gl by rw [← hgl]; exact obj_lt (hk.obj H5.out.hc (not_no _)))
  clear hk
  have m0 := obj_cell H7.out.hm 0
  have m1 := obj_cell H7.out.hm 1
  have m2 := obj_cell H7.out.hm 2
  have m3 := obj_cell H7.out.hm 3
  have c0 := obj_cell H7.out.hc 0
  have c1 := obj_cell H7.out.hc 1
  have c2 := obj_cell H7.out.hc 2
  have c3 := obj_cell H7.out.hc 3
  have c4 := obj_cell H7.out.hc 4
  go_wp2_with fail
  refine (HMI.out _).mono ?_
  rintro e9 w8 ⟨rfl, hk⟩
  obtain ⟨w9, hw9⟩ : ∃ w9, w8.alloc (.cells #[.int .i64 e, .int .i64 f, .int .i64 h, .int .i64 i, .int .i64 L] 25) = w9 := ⟨_, rfl⟩
  obtain ⟨gm, hgm⟩ : ∃ gm, w8.heap.size = gm := ⟨_, rfl⟩
  have H9 := Lib.hid (show SL #[.int .i64 a, .int .i64 b, .int .i64 c, .int .i64 d] #[.int .i64 x, .int .i64 y, .int .i64 z, .int .i64 u, .int .i64 g] #[.int .i64 p, .int .i64 q, .int .i64 r, .int .i64 t] #[.int .i64 e, .int .i64 f, .int .i64 h, .int .i64 i, .int .i64 L] w gl gm w9 by
    rw [← hw9]
    exact ⟨(H7.out.to hk).to ((Kept.refl No w8).alloc _), obj_alloc (hk.obj HL7.out (not_no _)) _, by rw [← hgm]; exact heap_alloc_new w8 _, HG7.out, by rw [← hgm]; exact obj_lt (hk.obj HL7.out (not_no _))⟩)
  clear hk
  have m0 := obj_cell H9.out.s.hm 0
  have m1 := obj_cell H9.out.s.hm 1
  have m2 := obj_cell H9.out.s.hm 2
  have m3 := obj_cell H9.out.s.hm 3
  have c0 := obj_cell H9.out.s.hc 0
  have c1 := obj_cell H9.out.s.hc 1
  have c2 := obj_cell H9.out.s.hc 2
  have c3 := obj_cell H9.out.s.hc 3
  have c4 := obj_cell H9.out.s.hc 4
  have v0 := obj_cell H9.out.hl 0
  have v1 := obj_cell H9.out.hl 1
  have v2 := obj_cell H9.out.hl 2
  have v3 := obj_cell H9.out.hl 3
  have n0 := obj_cell H9.out.hx 0
  have n1 := obj_cell H9.out.hx 1
  have n2 := obj_cell H9.out.hx 2
  have n3 := obj_cell H9.out.hx 3
  have n4 := obj_cell H9.out.hx 4
  go_wp2_with fail
  refine (HCA.out _).mono ?_
  rintro e9 w10 ⟨rfl, hk⟩
  have HZ := Lib.hid (H9.out.to hk)
  clear hk
  have m0 := obj_cell HZ.out.s.hm 0
  have m1 := obj_cell HZ.out.s.hm 1
  have m2 := obj_cell HZ.out.s.hm 2
  have m3 := obj_cell HZ.out.s.hm 3
  have c0 := obj_cell HZ.out.s.hc 0
  have c1 := obj_cell HZ.out.s.hc 1
  have c2 := obj_cell HZ.out.s.hc 2
  have c3 := obj_cell HZ.out.s.hc 3
  have c4 := obj_cell HZ.out.s.hc 4
  have v0 := obj_cell HZ.out.hl 0
  have v1 := obj_cell HZ.out.hl 1
  have v2 := obj_cell HZ.out.hl 2
  have v3 := obj_cell HZ.out.hl 3
  have n0 := obj_cell HZ.out.hx 0
  have n1 := obj_cell HZ.out.hx 1
  have n2 := obj_cell HZ.out.hx 2
  have n3 := obj_cell HZ.out.hx 3
  have n4 := obj_cell HZ.out.hx 4
  go_wp2_with fail
  obtain ⟨w11, hw11⟩ : ∃ w11, w10.alloc (.cells #[.int .i64 a, .int .i64 b, .int .i64 c, .int .i64 d] 23) = w11 := ⟨_, rfl⟩
  obtain ⟨go, hgo⟩ : ∃ go, w10.heap.size = go := ⟨_, rfl⟩
  have HM0 := Lib.hid (show SM #[.int .i64 a, .int .i64 b, .int .i64 c, .int .i64 d] #[.int .i64 x, .int .i64 y, .int .i64 z, .int .i64 u, .int .i64 g] #[.int .i64 p, .int .i64 q, .int .i64 r, .int .i64 t] #[.int .i64 e, .int .i64 f, .int .i64 h, .int .i64 i, .int .i64 L] (mo1 a b c d e f h i 0) w gl gm go w11 by
    rw [← hw11]
    exact ⟨HZ.out.to ((Kept.refl No w10).alloc _), by rw [← hgo]; exact heap_alloc_new w10 _, by rw [← hgo]; exact obj_lt HZ.out.hx⟩)
  go_wp2_with fail
  try rw [hgo]
  clear hgo
  go_loopw [94] (fun ii wr => ∃ k : Nat, ii = .int .i64 (k : Nat) ∧ k ≤ 4 ∧ SM #[.int .i64 a, .int .i64 b, .int .i64 c, .int .i64 d] #[.int .i64 x, .int .i64 y, .int .i64 z, .int .i64 u, .int .i64 g] #[.int .i64 p, .int .i64 q, .int .i64 r, .int .i64 t] #[.int .i64 e, .int .i64 f, .int .i64 h, .int .i64 i, .int .i64 L] (mo1 a b c d e f h i k) w gl gm go wr) (fun ii _ => 4 - (intOf ii).toNat)
  case atStart =>
    refine ⟨0, rfl, by decide, ?_⟩
    first | exact HM0.out | (rw [hw11]; exact HM0.out)
  case round =>
    obtain ⟨k, rfl, hk4, hp⟩ := hrel
    obtain rfl | rfl | rfl | rfl | rfl : k = 0 ∨ k = 1 ∨ k = 2 ∨ k = 3 ∨ k = 4 := by omega
    · have o0 : wr.cell? ⟨go, 0, none⟩ = some (.int .i64 a) := obj_cell hp.ho 0
      have y0 : wr.frozen? ⟨go, 0, none⟩ = false := obj_free hp.ho 0
      have n0 : wr.cell? ⟨gm, 0, none⟩ = some (.int .i64 e) := obj_cell hp.l.hx 0
      have q2 : IntKind.i64.wrap (a + e) = a + e := IntWalk.i64_in _ (by omega)
      have HP := Lib.hid hp
      clear hp
      go_wp2_with fail
      go_still_tail 9, (by kernel_rfl)
      go_wp2_with fail
      go_roundw
      case rel => first | exact ⟨1, by go_num, by decide, (by first | exact HP.out.drew.put 0 _ | exact (HP.out.drewN _).put 0 _)⟩ | ((repeat apply Exists.intro); exact ⟨⟨1, by go_num, by decide, (by first | exact HP.out.drew.put 0 _ | exact (HP.out.drewN _).put 0 _)⟩, rfl⟩)
      case measure => simp [intOf]
    · have o1 : wr.cell? ⟨go, 1, none⟩ = some (.int .i64 b) := obj_cell hp.ho 1
      have y1 : wr.frozen? ⟨go, 1, none⟩ = false := obj_free hp.ho 1
      have n1 : wr.cell? ⟨gm, 1, none⟩ = some (.int .i64 f) := obj_cell hp.l.hx 1
      have q2 : IntKind.i64.wrap (b + f) = b + f := IntWalk.i64_in _ (by omega)
      have HP := Lib.hid hp
      clear hp
      go_wp2_with fail
      go_still_tail 9, (by kernel_rfl)
      go_wp2_with fail
      go_roundw
      case rel => first | exact ⟨2, by go_num, by decide, (by first | exact HP.out.drew.put 1 _ | exact (HP.out.drewN _).put 1 _)⟩ | ((repeat apply Exists.intro); exact ⟨⟨2, by go_num, by decide, (by first | exact HP.out.drew.put 1 _ | exact (HP.out.drewN _).put 1 _)⟩, rfl⟩)
      case measure => simp [intOf]
    · have o2 : wr.cell? ⟨go, 2, none⟩ = some (.int .i64 c) := obj_cell hp.ho 2
      have y2 : wr.frozen? ⟨go, 2, none⟩ = false := obj_free hp.ho 2
      have n2 : wr.cell? ⟨gm, 2, none⟩ = some (.int .i64 h) := obj_cell hp.l.hx 2
      have q2 : IntKind.i64.wrap (c + h) = c + h := IntWalk.i64_in _ (by omega)
      have HP := Lib.hid hp
      clear hp
      go_wp2_with fail
      go_still_tail 9, (by kernel_rfl)
      go_wp2_with fail
      go_roundw
      case rel => first | exact ⟨3, by go_num, by decide, (by first | exact HP.out.drew.put 2 _ | exact (HP.out.drewN _).put 2 _)⟩ | ((repeat apply Exists.intro); exact ⟨⟨3, by go_num, by decide, (by first | exact HP.out.drew.put 2 _ | exact (HP.out.drewN _).put 2 _)⟩, rfl⟩)
      case measure => simp [intOf]
    · have o3 : wr.cell? ⟨go, 3, none⟩ = some (.int .i64 d) := obj_cell hp.ho 3
      have y3 : wr.frozen? ⟨go, 3, none⟩ = false := obj_free hp.ho 3
      have n3 : wr.cell? ⟨gm, 3, none⟩ = some (.int .i64 i) := obj_cell hp.l.hx 3
      have q2 : IntKind.i64.wrap (d + i) = d + i := IntWalk.i64_in _ (by omega)
      have HP := Lib.hid hp
      clear hp
      go_wp2_with fail
      go_still_tail 9, (by kernel_rfl)
      go_wp2_with fail
      go_roundw
      case rel => first | exact ⟨4, by go_num, by decide, (by first | exact HP.out.drew.put 3 _ | exact (HP.out.drewN _).put 3 _)⟩ | ((repeat apply Exists.intro); exact ⟨⟨4, by go_num, by decide, (by first | exact HP.out.drew.put 3 _ | exact (HP.out.drewN _).put 3 _)⟩, rfl⟩)
      case measure => simp [intOf]
    · have HP := Lib.hid (show SM #[.int .i64 a, .int .i64 b, .int .i64 c, .int .i64 d] #[.int .i64 x, .int .i64 y, .int .i64 z, .int .i64 u, .int .i64 g] #[.int .i64 p, .int .i64 q, .int .i64 r, .int .i64 t] #[.int .i64 e, .int .i64 f, .int .i64 h, .int .i64 i, .int .i64 L] (mo2 a b c d e f h i ((0 : Nat) : Int)) w gl gm go wr by rw [mo2_zero]; exact hp)
      clear hp
      go_wp2_with fail
      go_loopw [12] (fun ii wr => ∃ n : Nat, ii = .int .i64 (n : Nat) ∧ (n : Int) ≤ L ∧ SM #[.int .i64 a, .int .i64 b, .int .i64 c, .int .i64 d] #[.int .i64 x, .int .i64 y, .int .i64 z, .int .i64 u, .int .i64 g] #[.int .i64 p, .int .i64 q, .int .i64 r, .int .i64 t] #[.int .i64 e, .int .i64 f, .int .i64 h, .int .i64 i, .int .i64 L] (mo2 a b c d e f h i (n : Nat)) w gl gm go wr) (fun ii _ => L.toNat - (intOf ii).toNat)
      case atStart => exact ⟨0, rfl, by omega, HP.out⟩
      case round =>
        obtain ⟨n, rfl, hn, hp⟩ := hrel
        have n4 : wr.cell? ⟨gm, 4, none⟩ = some (.int .i64 L) := obj_cell hp.l.hx 4
        by_cases hlt : (n : Int) < L
        · have hr4 : n % 4 = 0 ∨ n % 4 = 1 ∨ n % 4 = 2 ∨ n % 4 = 3 := by omega
          have HLT := Lib.hid hlt
          rcases hr4 with hr | hr | hr | hr
          · have hr' : (n : Int) % 4 = 0 := by omega
            obtain ⟨V, hV⟩ : ∃ V, a + e + ((n : Int) + 3) / 4 = V := ⟨_, rfl⟩
            have hVb : 0 ≤ V ∧ V ≤ 300 := by omega
            have o0 : wr.cell? ⟨go, 0, none⟩ = some (.int .i64 V) := by rw [← hV]; exact obj_cell hp.ho 0
            have y0 : wr.frozen? ⟨go, 0, none⟩ = false := obj_free hp.ho 0
            have HUP := Lib.hid (show mo2 a b c d e f h i ((n + 1 : Nat) : Int) = (mo2 a b c d e f h i (n : Nat)).setIfInBounds 0 (.int .i64 (V + 1)) by rw [← hV]; exact mo2_up0 a b c d e f h i n hr')
            have HP := Lib.hid hp
            clear hp hV hr
            go_wp2_with fail
            have HPN := Lib.hid (show SM #[.int .i64 a, .int .i64 b, .int .i64 c, .int .i64 d] #[.int .i64 x, .int .i64 y, .int .i64 z, .int .i64 u, .int .i64 g] #[.int .i64 p, .int .i64 q, .int .i64 r, .int .i64 t] #[.int .i64 e, .int .i64 f, .int .i64 h, .int .i64 i, .int .i64 L] (mo2 a b c d e f h i ((n + 1 : Nat) : Int)) w gl gm go _ from HUP.out ▸ HP.out.put 0 (.int .i64 (V + 1)))
            go_roundw
            case rel => first | exact ⟨n + 1, by go_num, by have := HLT.out; omega, HPN.out⟩ | ((repeat apply Exists.intro); exact ⟨⟨n + 1, by go_num, by have := HLT.out; omega, HPN.out⟩, rfl⟩)
            case measure => have := HLT.out; simp [intOf]; omega
          · have hr' : (n : Int) % 4 = 1 := by omega
            obtain ⟨V, hV⟩ : ∃ V, b + f + ((n : Int) + 2) / 4 = V := ⟨_, rfl⟩
            have hVb : 0 ≤ V ∧ V ≤ 300 := by omega
            have o1 : wr.cell? ⟨go, 1, none⟩ = some (.int .i64 V) := by rw [← hV]; exact obj_cell hp.ho 1
            have y1 : wr.frozen? ⟨go, 1, none⟩ = false := obj_free hp.ho 1
            have HUP := Lib.hid (show mo2 a b c d e f h i ((n + 1 : Nat) : Int) = (mo2 a b c d e f h i (n : Nat)).setIfInBounds 1 (.int .i64 (V + 1)) by rw [← hV]; exact mo2_up1 a b c d e f h i n hr')
            have HP := Lib.hid hp
            clear hp hV hr
            go_wp2_with fail
            have HPN := Lib.hid (show SM #[.int .i64 a, .int .i64 b, .int .i64 c, .int .i64 d] #[.int .i64 x, .int .i64 y, .int .i64 z, .int .i64 u, .int .i64 g] #[.int .i64 p, .int .i64 q, .int .i64 r, .int .i64 t] #[.int .i64 e, .int .i64 f, .int .i64 h, .int .i64 i, .int .i64 L] (mo2 a b c d e f h i ((n + 1 : Nat) : Int)) w gl gm go _ from HUP.out ▸ HP.out.put 1 (.int .i64 (V + 1)))
            go_roundw
            case rel => first | exact ⟨n + 1, by go_num, by have := HLT.out; omega, HPN.out⟩ | ((repeat apply Exists.intro); exact ⟨⟨n + 1, by go_num, by have := HLT.out; omega, HPN.out⟩, rfl⟩)
            case measure => have := HLT.out; simp [intOf]; omega
          · have hr' : (n : Int) % 4 = 2 := by omega
            obtain ⟨V, hV⟩ : ∃ V, c + h + ((n : Int) + 1) / 4 = V := ⟨_, rfl⟩
            have hVb : 0 ≤ V ∧ V ≤ 300 := by omega
            have o2 : wr.cell? ⟨go, 2, none⟩ = some (.int .i64 V) := by rw [← hV]; exact obj_cell hp.ho 2
            have y2 : wr.frozen? ⟨go, 2, none⟩ = false := obj_free hp.ho 2
            have HUP := Lib.hid (show mo2 a b c d e f h i ((n + 1 : Nat) : Int) = (mo2 a b c d e f h i (n : Nat)).setIfInBounds 2 (.int .i64 (V + 1)) by rw [← hV]; exact mo2_up2 a b c d e f h i n hr')
            have HP := Lib.hid hp
            clear hp hV hr
            go_wp2_with fail
            have HPN := Lib.hid (show SM #[.int .i64 a, .int .i64 b, .int .i64 c, .int .i64 d] #[.int .i64 x, .int .i64 y, .int .i64 z, .int .i64 u, .int .i64 g] #[.int .i64 p, .int .i64 q, .int .i64 r, .int .i64 t] #[.int .i64 e, .int .i64 f, .int .i64 h, .int .i64 i, .int .i64 L] (mo2 a b c d e f h i ((n + 1 : Nat) : Int)) w gl gm go _ from HUP.out ▸ HP.out.put 2 (.int .i64 (V + 1)))
            go_roundw
            case rel => first | exact ⟨n + 1, by go_num, by have := HLT.out; omega, HPN.out⟩ | ((repeat apply Exists.intro); exact ⟨⟨n + 1, by go_num, by have := HLT.out; omega, HPN.out⟩, rfl⟩)
            case measure => have := HLT.out; simp [intOf]; omega
          · have hr' : (n : Int) % 4 = 3 := by omega
            obtain ⟨V, hV⟩ : ∃ V, d + i + ((n : Int) + 0) / 4 = V := ⟨_, rfl⟩
            have hVb : 0 ≤ V ∧ V ≤ 300 := by omega
            have o3 : wr.cell? ⟨go, 3, none⟩ = some (.int .i64 V) := by rw [← hV]; exact obj_cell hp.ho 3
            have y3 : wr.frozen? ⟨go, 3, none⟩ = false := obj_free hp.ho 3
            have HUP := Lib.hid (show mo2 a b c d e f h i ((n + 1 : Nat) : Int) = (mo2 a b c d e f h i (n : Nat)).setIfInBounds 3 (.int .i64 (V + 1)) by rw [← hV]; exact mo2_up3 a b c d e f h i n hr')
            have HP := Lib.hid hp
            clear hp hV hr
            go_wp2_with fail
            have HPN := Lib.hid (show SM #[.int .i64 a, .int .i64 b, .int .i64 c, .int .i64 d] #[.int .i64 x, .int .i64 y, .int .i64 z, .int .i64 u, .int .i64 g] #[.int .i64 p, .int .i64 q, .int .i64 r, .int .i64 t] #[.int .i64 e, .int .i64 f, .int .i64 h, .int .i64 i, .int .i64 L] (mo2 a b c d e f h i ((n + 1 : Nat) : Int)) w gl gm go _ from HUP.out ▸ HP.out.put 3 (.int .i64 (V + 1)))
            go_roundw
            case rel => first | exact ⟨n + 1, by go_num, by have := HLT.out; omega, HPN.out⟩ | ((repeat apply Exists.intro); exact ⟨⟨n + 1, by go_num, by have := HLT.out; omega, HPN.out⟩, rfl⟩)
            case measure => have := HLT.out; simp [intOf]; omega
        · have hnL : (n : Int) = L := Int.le_antisymm hn (Int.not_lt.mp hlt)
          obtain ⟨aa, haa⟩ : ∃ v, a + e + (L + 3) / 4 = v := ⟨_, rfl⟩
          obtain ⟨bb, hbb⟩ : ∃ v, b + f + (L + 2) / 4 = v := ⟨_, rfl⟩
          obtain ⟨cc, hcc⟩ : ∃ v, c + h + (L + 1) / 4 = v := ⟨_, rfl⟩
          obtain ⟨dd, hdd⟩ : ∃ v, d + i + (L + 0) / 4 = v := ⟨_, rfl⟩
          have hD : mo2 a b c d e f h i (n : Nat) = #[.int .i64 aa, .int .i64 bb, .int .i64 cc, .int .i64 dd] := by rw [hnL, ← haa, ← hbb, ← hcc, ← hdd]; rfl
          rw [hD] at hp
          obtain ⟨k0, k1, k2, k3, kle, kg⟩ := HKF.out
          clear k0 k1 k2 k3
          have hmore := more_ok hL.1 kle kg
          rw [haa, hbb, hcc, hdd] at hmore
          clear haa hbb hcc hdd hD hnL kle kg
          have HZ := Lib.hid hp
          clear hp
          have m0 := obj_cell HZ.out.l.s.hm 0
          have m1 := obj_cell HZ.out.l.s.hm 1
          have m2 := obj_cell HZ.out.l.s.hm 2
          have m3 := obj_cell HZ.out.l.s.hm 3
          have c0 := obj_cell HZ.out.l.s.hc 0
          have c1 := obj_cell HZ.out.l.s.hc 1
          have c2 := obj_cell HZ.out.l.s.hc 2
          have c3 := obj_cell HZ.out.l.s.hc 3
          have c4 := obj_cell HZ.out.l.s.hc 4
          have v0 := obj_cell HZ.out.l.hl 0
          have v1 := obj_cell HZ.out.l.hl 1
          have v2 := obj_cell HZ.out.l.hl 2
          have v3 := obj_cell HZ.out.l.hl 3
          have n0 := obj_cell HZ.out.l.hx 0
          have n1 := obj_cell HZ.out.l.hx 1
          have n2 := obj_cell HZ.out.l.hx 2
          have n3 := obj_cell HZ.out.l.hx 3
          have n4 := obj_cell HZ.out.l.hx 4
          have o0 := obj_cell HZ.out.ho 0
          have o1 := obj_cell HZ.out.ho 1
          have o2 := obj_cell HZ.out.ho 2
          have o3 := obj_cell HZ.out.ho 3
          cases him : in4 99 aa bb cc dd
          · have HV1 := Lib.hid (fun W => (show Calls Tryd.prog 12 #[.agg #[.int .i64 aa, .int .i64 bb, .int .i64 cc, .int .i64 dd]] W fun e9 w' => e9 = .returned (.bool false) ∧ Kept No W w' from him ▸ valid_any aa bb cc dd W))
            have hge : decide (1 ≤ e + f + h + i + L) = true := decide_eq_true hone
            clear him hmore
            go_wp2_with fail
            go_region_with (first | (go_at_call 12; (with_reducible refine (HV1.out _).mono ?_); rintro e9 wz ⟨rfl, hk⟩; have c0 := hk.cell c0 (not_no _); have c1 := hk.cell c1 (not_no _); have c2 := hk.cell c2 (not_no _); have c3 := hk.cell c3 (not_no _); have c4 := hk.cell c4 (not_no _); have n0 := hk.cell n0 (not_no _); have n1 := hk.cell n1 (not_no _); have n2 := hk.cell n2 (not_no _); have n3 := hk.cell n3 (not_no _); have n4 := hk.cell n4 (not_no _); have o0 := hk.cell o0 (not_no _); have o1 := hk.cell o1 (not_no _); have o2 := hk.cell o2 (not_no _); have o3 := hk.cell o3 (not_no _); have HZ := Lib.hid (HZ.out.to (by first | exact hk | exact hk.of_drew)); clear hk))
            all_goals
              have H5 := HZ
              have m0 := obj_cell H5.out.l.s.hm 0
              have m1 := obj_cell H5.out.l.s.hm 1
              have m2 := obj_cell H5.out.l.s.hm 2
              have m3 := obj_cell H5.out.l.s.hm 3
              have c0 := obj_cell H5.out.l.s.hc 0
              have c1 := obj_cell H5.out.l.s.hc 1
              have c2 := obj_cell H5.out.l.s.hc 2
              have c3 := obj_cell H5.out.l.s.hc 3
              have c4 := obj_cell H5.out.l.s.hc 4
              have v0 := obj_cell H5.out.l.hl 0
              have v1 := obj_cell H5.out.l.hl 1
              have v2 := obj_cell H5.out.l.hl 2
              have v3 := obj_cell H5.out.l.hl 3
              have n0 := obj_cell H5.out.l.hx 0
              have n1 := obj_cell H5.out.l.hx 1
              have n2 := obj_cell H5.out.l.hx 2
              have n3 := obj_cell H5.out.l.hx 3
              have n4 := obj_cell H5.out.l.hx 4
              have o0 := obj_cell H5.out.ho 0
              have o1 := obj_cell H5.out.ho 1
              have o2 := obj_cell H5.out.ho 2
              have o3 := obj_cell H5.out.ho 3
              go_wp2_with fail
              refine (HVM.out _).mono ?_
              rintro e9 wm ⟨rfl, hk⟩
              have H6 := Lib.hid (H5.out.to hk)
              clear hk
              have m0 := obj_cell H6.out.l.s.hm 0
              have m1 := obj_cell H6.out.l.s.hm 1
              have m2 := obj_cell H6.out.l.s.hm 2
              have m3 := obj_cell H6.out.l.s.hm 3
              have c0 := obj_cell H6.out.l.s.hc 0
              have c1 := obj_cell H6.out.l.s.hc 1
              have c2 := obj_cell H6.out.l.s.hc 2
              have c3 := obj_cell H6.out.l.s.hc 3
              have c4 := obj_cell H6.out.l.s.hc 4
              have v0 := obj_cell H6.out.l.hl 0
              have v1 := obj_cell H6.out.l.hl 1
              have v2 := obj_cell H6.out.l.hl 2
              have v3 := obj_cell H6.out.l.hl 3
              have n0 := obj_cell H6.out.l.hx 0
              have n1 := obj_cell H6.out.l.hx 1
              have n2 := obj_cell H6.out.l.hx 2
              have n3 := obj_cell H6.out.l.hx 3
              have n4 := obj_cell H6.out.l.hx 4
              have o0 := obj_cell H6.out.ho 0
              have o1 := obj_cell H6.out.ho 1
              have o2 := obj_cell H6.out.ho 2
              have o3 := obj_cell H6.out.ho 3
              go_wp2_with fail
              refine (HV1.out _).mono ?_
              rintro e9 wn ⟨rfl, hk⟩
              have H7 := Lib.hid (H6.out.to hk)
              clear hk
              go_wp2_with fail
              refine (known_any _ (HE.out.kept H7.out.l.s.kept)).mono ?_
              rintro e9 wk ⟨rfl, hk⟩
              have HKF := Lib.hid ((H7.out.l.s.kept).and hk)
              clear hk
              go_wp2_with fail
              go_ret
              exact ⟨rfl, HKF.out⟩
          · have HV1 := Lib.hid (fun W => (show Calls Tryd.prog 12 #[.agg #[.int .i64 aa, .int .i64 bb, .int .i64 cc, .int .i64 dd]] W fun e9 w' => e9 = .returned (.bool true) ∧ Kept No W w' from him ▸ valid_any aa bb cc dd W))
            have hcy := canB_yes him HJ.out hmore.1 hmore.2
            have HCM := Lib.hid (fun W => (show Calls Tryd.prog 21 #[.agg #[.int .i64 aa, .int .i64 bb, .int .i64 cc, .int .i64 dd], .agg #[.int .i64 x, .int .i64 y, .int .i64 z, .int .i64 u, .int .i64 g]] W fun e9 w' => e9 = .returned (.bool true) ∧ Kept No W w' from hcy ▸ can_any aa bb cc dd x y z u g W))
            have hb4 := in4_out him
            have hl1 : decide (e + f + h + i + L < 1) = false := decide_eq_false (Int.not_lt.mpr hone)
            have hl2 := sum_less he hf hh h9 hL
            clear hcy him hmore
            go_wp2_with fail
            go_region_held3 (fun w' => w'.cell? ⟨w.heap.size + 1, 0, none⟩ = some (.int .i64 x) ∧ w'.cell? ⟨w.heap.size + 1, 1, none⟩ = some (.int .i64 y) ∧ w'.cell? ⟨w.heap.size + 1, 2, none⟩ = some (.int .i64 z) ∧ w'.cell? ⟨w.heap.size + 1, 3, none⟩ = some (.int .i64 u) ∧ w'.cell? ⟨w.heap.size + 1, 4, none⟩ = some (.int .i64 g) ∧ w'.cell? ⟨gm, 0, none⟩ = some (.int .i64 e) ∧ w'.cell? ⟨gm, 1, none⟩ = some (.int .i64 f) ∧ w'.cell? ⟨gm, 2, none⟩ = some (.int .i64 h) ∧ w'.cell? ⟨gm, 3, none⟩ = some (.int .i64 i) ∧ w'.cell? ⟨gm, 4, none⟩ = some (.int .i64 L) ∧ w'.cell? ⟨go, 0, none⟩ = some (.int .i64 aa) ∧ w'.cell? ⟨go, 1, none⟩ = some (.int .i64 bb) ∧ w'.cell? ⟨go, 2, none⟩ = some (.int .i64 cc) ∧ w'.cell? ⟨go, 3, none⟩ = some (.int .i64 dd)) (first | go_keep | exact ⟨c0, c1, c2, c3, c4, n0, n1, n2, n3, n4, o0, o1, o2, o3⟩)
              (first | (go_at_call 12; (with_reducible refine (HV1.out _).mono ?_); rintro e9 wz ⟨rfl, hk⟩; have c0 := hk.cell c0 (not_no _); have c1 := hk.cell c1 (not_no _); have c2 := hk.cell c2 (not_no _); have c3 := hk.cell c3 (not_no _); have c4 := hk.cell c4 (not_no _); have n0 := hk.cell n0 (not_no _); have n1 := hk.cell n1 (not_no _); have n2 := hk.cell n2 (not_no _); have n3 := hk.cell n3 (not_no _); have n4 := hk.cell n4 (not_no _); have o0 := hk.cell o0 (not_no _); have o1 := hk.cell o1 (not_no _); have o2 := hk.cell o2 (not_no _); have o3 := hk.cell o3 (not_no _); have HZ := Lib.hid (HZ.out.to (by first | exact hk | exact hk.of_drew)); clear hk) | (go_at_call 21; (with_reducible refine (HCM.out _).mono ?_); rintro e9 wz ⟨rfl, hk⟩; have c0 := hk.cell c0 (not_no _); have c1 := hk.cell c1 (not_no _); have c2 := hk.cell c2 (not_no _); have c3 := hk.cell c3 (not_no _); have c4 := hk.cell c4 (not_no _); have n0 := hk.cell n0 (not_no _); have n1 := hk.cell n1 (not_no _); have n2 := hk.cell n2 (not_no _); have n3 := hk.cell n3 (not_no _); have n4 := hk.cell n4 (not_no _); have o0 := hk.cell o0 (not_no _); have o1 := hk.cell o1 (not_no _); have o2 := hk.cell o2 (not_no _); have o3 := hk.cell o3 (not_no _); have HZ := Lib.hid (HZ.out.to (by first | exact hk | exact hk.of_drew)); clear hk) | (go_at_call 15; (with_reducible refine (HVM.out _).mono ?_); rintro e9 wz ⟨rfl, hk⟩; have c0 := hk.cell c0 (not_no _); have c1 := hk.cell c1 (not_no _); have c2 := hk.cell c2 (not_no _); have c3 := hk.cell c3 (not_no _); have c4 := hk.cell c4 (not_no _); have n0 := hk.cell n0 (not_no _); have n1 := hk.cell n1 (not_no _); have n2 := hk.cell n2 (not_no _); have n3 := hk.cell n3 (not_no _); have n4 := hk.cell n4 (not_no _); have o0 := hk.cell o0 (not_no _); have o1 := hk.cell o1 (not_no _); have o2 := hk.cell o2 (not_no _); have o3 := hk.cell o3 (not_no _); have HZ := Lib.hid (HZ.out.to (by first | exact hk | exact hk.of_drew)); clear hk) | (go_at_call 15; (with_reducible refine (HVC.out _).mono ?_); rintro e9 wz ⟨rfl, hk⟩; have c0 := hk.cell c0 (not_no _); have c1 := hk.cell c1 (not_no _); have c2 := hk.cell c2 (not_no _); have c3 := hk.cell c3 (not_no _); have c4 := hk.cell c4 (not_no _); have n0 := hk.cell n0 (not_no _); have n1 := hk.cell n1 (not_no _); have n2 := hk.cell n2 (not_no _); have n3 := hk.cell n3 (not_no _); have n4 := hk.cell n4 (not_no _); have o0 := hk.cell o0 (not_no _); have o1 := hk.cell o1 (not_no _); have o2 := hk.cell o2 (not_no _); have o3 := hk.cell o3 (not_no _); have HZ := Lib.hid (HZ.out.to (by first | exact hk | exact hk.of_drew)); clear hk))
            clear hl1 hl2
            have HP4 := Lib.hid HZ.out
            clear HZ
            go_wp2_with fail
            go_loopw [151] (fun ii wr => ∃ k : Nat, ii = .int .i64 (k : Nat) ∧ k ≤ 4 ∧ SM #[.int .i64 a, .int .i64 b, .int .i64 c, .int .i64 d] #[.int .i64 x, .int .i64 y, .int .i64 z, .int .i64 u, .int .i64 g] #[.int .i64 p, .int .i64 q, .int .i64 r, .int .i64 t] #[.int .i64 e, .int .i64 f, .int .i64 h, .int .i64 i, .int .i64 L] #[.int .i64 aa, .int .i64 bb, .int .i64 cc, .int .i64 dd] w gl gm go wr) (fun ii _ => 4 - (intOf ii).toNat)
            case atStart => exact ⟨0, rfl, by decide, HP4.out⟩
            case round =>
              obtain ⟨k, rfl, hk4, hp⟩ := hrel
              have HZ := Lib.hid hp
              clear hp
              obtain rfl | rfl | rfl | rfl | rfl : k = 0 ∨ k = 1 ∨ k = 2 ∨ k = 3 ∨ k = 4 := by omega
              · have n0 : wr.cell? ⟨gm, 0, none⟩ = some (.int .i64 e) := obj_cell HZ.out.l.hx 0
                by_cases hpos : 0 < e
                · have hcn : canB (a + e - 1) bb cc dd x y z u g = false := canB_not (by obtain ⟨k0, k1, k2, k3, _, _⟩ := HKF.out; have := k0 hpos; omega)
                  have HCL := Lib.hid (fun W => (show Calls Tryd.prog 21 #[.agg #[.int .i64 (a + e - 1), .int .i64 bb, .int .i64 cc, .int .i64 dd], .agg #[.int .i64 x, .int .i64 y, .int .i64 z, .int .i64 u, .int .i64 g]] W fun e9 w' => e9 = .returned (.bool false) ∧ Kept No W w' from hcn ▸ can_any (a + e - 1) bb cc dd x y z u g W))
                  have q1 : IntKind.i64.wrap (a + e) = a + e := IntWalk.i64_in _ (by omega)
                  have q2 : IntKind.i64.wrap (a + e - 1) = a + e - 1 := IntWalk.i64_in _ (by omega)
                  clear hcn
                  obtain ⟨ws, hws⟩ : ∃ ws, wr.alloc (.cells #[.int .i64 aa, .int .i64 bb, .int .i64 cc, .int .i64 dd] 23) = ws := ⟨_, rfl⟩
                  obtain ⟨gs, hgs⟩ : ∃ gs, wr.heap.size = gs := ⟨_, rfl⟩
                  have HQ := Lib.hid (show SQ #[.int .i64 a, .int .i64 b, .int .i64 c, .int .i64 d] #[.int .i64 x, .int .i64 y, .int .i64 z, .int .i64 u, .int .i64 g] #[.int .i64 p, .int .i64 q, .int .i64 r, .int .i64 t] #[.int .i64 e, .int .i64 f, .int .i64 h, .int .i64 i, .int .i64 L] #[.int .i64 aa, .int .i64 bb, .int .i64 cc, .int .i64 dd] #[.int .i64 aa, .int .i64 bb, .int .i64 cc, .int .i64 dd] w gl gm go gs ws by
                    rw [← hws]
                    exact ⟨HZ.out.to ((Kept.refl No wr).alloc _), by rw [← hgs]; exact heap_alloc_new wr _, by rw [← hgs]; exact obj_lt HZ.out.ho⟩)
                  have o0 := obj_cell HZ.out.ho 0
                  have o1 := obj_cell HZ.out.ho 1
                  have o2 := obj_cell HZ.out.ho 2
                  have o3 := obj_cell HZ.out.ho 3
                  have s0 := obj_cell HQ.out.hq 0
                  have y0 := obj_free HQ.out.hq 0
                  have m0 : ws.cell? ⟨w.heap.size, 0, none⟩ = some (.int .i64 a) := obj_cell HQ.out.m.l.s.hm 0
                  have nn : ws.cell? ⟨gm, 0, none⟩ = some (.int .i64 e) := obj_cell HQ.out.m.l.hx 0
                  go_wp2_with fail
                  go_still_tail 11, (by kernel_rfl)
                  clear hws hgs
                  change wpList _ _ _ _ _ ws.drew
                  have HD := Lib.hid (HQ.out.to ((Kept.refl No ws).drew))
                  generalize ws.drew = wd at HD ⊢
                  have s0 := obj_cell HD.out.hq 0
                  have y0 := obj_free HD.out.hq 0
                  obtain ⟨w2, hw2⟩ : ∃ w2, wd.setCell ⟨gs, 0, none⟩ (.int .i64 (a + e - 1)) = w2 := ⟨_, rfl⟩
                  have H2 := Lib.hid (show SQ #[.int .i64 a, .int .i64 b, .int .i64 c, .int .i64 d] #[.int .i64 x, .int .i64 y, .int .i64 z, .int .i64 u, .int .i64 g] #[.int .i64 p, .int .i64 q, .int .i64 r, .int .i64 t] #[.int .i64 e, .int .i64 f, .int .i64 h, .int .i64 i, .int .i64 L] #[.int .i64 aa, .int .i64 bb, .int .i64 cc, .int .i64 dd] #[.int .i64 (a + e - 1), .int .i64 bb, .int .i64 cc, .int .i64 dd] w gl gm go gs w2 by rw [← hw2]; exact HD.out.put 0 _)
                  have s0 := obj_cell H2.out.hq 0
                  have s1 := obj_cell H2.out.hq 1
                  have s2 := obj_cell H2.out.hq 2
                  have s3 := obj_cell H2.out.hq 3
                  have c0 := obj_cell H2.out.m.l.s.hc 0
                  have c1 := obj_cell H2.out.m.l.s.hc 1
                  have c2 := obj_cell H2.out.m.l.s.hc 2
                  have c3 := obj_cell H2.out.m.l.s.hc 3
                  have c4 := obj_cell H2.out.m.l.s.hc 4
                  go_wp2_with fail
                  refine (HCL.out _).mono ?_
                  rintro e9 wx ⟨rfl, hk⟩
                  have H3 := Lib.hid (H2.out.m.to hk)
                  clear hk
                  go_wp2_with fail
                  go_roundw
                  case rel => first | exact ⟨1, by go_num, by decide, H3.out⟩ | ((repeat apply Exists.intro); exact ⟨⟨1, by go_num, by decide, H3.out⟩, rfl⟩)
                  case measure => simp [intOf]
                · go_wp2_with fail
                  go_roundw
                  case rel => first | exact ⟨1, by go_num, by decide, HZ.out⟩ | ((repeat apply Exists.intro); exact ⟨⟨1, by go_num, by decide, HZ.out⟩, rfl⟩)
                  case measure => simp [intOf]
              · have n1 : wr.cell? ⟨gm, 1, none⟩ = some (.int .i64 f) := obj_cell HZ.out.l.hx 1
                by_cases hpos : 0 < f
                · have hcn : canB aa (b + f - 1) cc dd x y z u g = false := canB_not (by obtain ⟨k0, k1, k2, k3, _, _⟩ := HKF.out; have := k1 hpos; omega)
                  have HCL := Lib.hid (fun W => (show Calls Tryd.prog 21 #[.agg #[.int .i64 aa, .int .i64 (b + f - 1), .int .i64 cc, .int .i64 dd], .agg #[.int .i64 x, .int .i64 y, .int .i64 z, .int .i64 u, .int .i64 g]] W fun e9 w' => e9 = .returned (.bool false) ∧ Kept No W w' from hcn ▸ can_any aa (b + f - 1) cc dd x y z u g W))
                  have q1 : IntKind.i64.wrap (b + f) = b + f := IntWalk.i64_in _ (by omega)
                  have q2 : IntKind.i64.wrap (b + f - 1) = b + f - 1 := IntWalk.i64_in _ (by omega)
                  clear hcn
                  obtain ⟨ws, hws⟩ : ∃ ws, wr.alloc (.cells #[.int .i64 aa, .int .i64 bb, .int .i64 cc, .int .i64 dd] 23) = ws := ⟨_, rfl⟩
                  obtain ⟨gs, hgs⟩ : ∃ gs, wr.heap.size = gs := ⟨_, rfl⟩
                  have HQ := Lib.hid (show SQ #[.int .i64 a, .int .i64 b, .int .i64 c, .int .i64 d] #[.int .i64 x, .int .i64 y, .int .i64 z, .int .i64 u, .int .i64 g] #[.int .i64 p, .int .i64 q, .int .i64 r, .int .i64 t] #[.int .i64 e, .int .i64 f, .int .i64 h, .int .i64 i, .int .i64 L] #[.int .i64 aa, .int .i64 bb, .int .i64 cc, .int .i64 dd] #[.int .i64 aa, .int .i64 bb, .int .i64 cc, .int .i64 dd] w gl gm go gs ws by
                    rw [← hws]
                    exact ⟨HZ.out.to ((Kept.refl No wr).alloc _), by rw [← hgs]; exact heap_alloc_new wr _, by rw [← hgs]; exact obj_lt HZ.out.ho⟩)
                  have o0 := obj_cell HZ.out.ho 0
                  have o1 := obj_cell HZ.out.ho 1
                  have o2 := obj_cell HZ.out.ho 2
                  have o3 := obj_cell HZ.out.ho 3
                  have s1 := obj_cell HQ.out.hq 1
                  have y1 := obj_free HQ.out.hq 1
                  have m1 : ws.cell? ⟨w.heap.size, 1, none⟩ = some (.int .i64 b) := obj_cell HQ.out.m.l.s.hm 1
                  have nn : ws.cell? ⟨gm, 1, none⟩ = some (.int .i64 f) := obj_cell HQ.out.m.l.hx 1
                  go_wp2_with fail
                  go_still_tail 11, (by kernel_rfl)
                  clear hws hgs
                  change wpList _ _ _ _ _ ws.drew
                  have HD := Lib.hid (HQ.out.to ((Kept.refl No ws).drew))
                  generalize ws.drew = wd at HD ⊢
                  have s1 := obj_cell HD.out.hq 1
                  have y1 := obj_free HD.out.hq 1
                  obtain ⟨w2, hw2⟩ : ∃ w2, wd.setCell ⟨gs, 1, none⟩ (.int .i64 (b + f - 1)) = w2 := ⟨_, rfl⟩
                  have H2 := Lib.hid (show SQ #[.int .i64 a, .int .i64 b, .int .i64 c, .int .i64 d] #[.int .i64 x, .int .i64 y, .int .i64 z, .int .i64 u, .int .i64 g] #[.int .i64 p, .int .i64 q, .int .i64 r, .int .i64 t] #[.int .i64 e, .int .i64 f, .int .i64 h, .int .i64 i, .int .i64 L] #[.int .i64 aa, .int .i64 bb, .int .i64 cc, .int .i64 dd] #[.int .i64 aa, .int .i64 (b + f - 1), .int .i64 cc, .int .i64 dd] w gl gm go gs w2 by rw [← hw2]; exact HD.out.put 1 _)
                  have s0 := obj_cell H2.out.hq 0
                  have s1 := obj_cell H2.out.hq 1
                  have s2 := obj_cell H2.out.hq 2
                  have s3 := obj_cell H2.out.hq 3
                  have c0 := obj_cell H2.out.m.l.s.hc 0
                  have c1 := obj_cell H2.out.m.l.s.hc 1
                  have c2 := obj_cell H2.out.m.l.s.hc 2
                  have c3 := obj_cell H2.out.m.l.s.hc 3
                  have c4 := obj_cell H2.out.m.l.s.hc 4
                  go_wp2_with fail
                  refine (HCL.out _).mono ?_
                  rintro e9 wx ⟨rfl, hk⟩
                  have H3 := Lib.hid (H2.out.m.to hk)
                  clear hk
                  go_wp2_with fail
                  go_roundw
                  case rel => first | exact ⟨2, by go_num, by decide, H3.out⟩ | ((repeat apply Exists.intro); exact ⟨⟨2, by go_num, by decide, H3.out⟩, rfl⟩)
                  case measure => simp [intOf]
                · go_wp2_with fail
                  go_roundw
                  case rel => first | exact ⟨2, by go_num, by decide, HZ.out⟩ | ((repeat apply Exists.intro); exact ⟨⟨2, by go_num, by decide, HZ.out⟩, rfl⟩)
                  case measure => simp [intOf]
              · have n2 : wr.cell? ⟨gm, 2, none⟩ = some (.int .i64 h) := obj_cell HZ.out.l.hx 2
                by_cases hpos : 0 < h
                · have hcn : canB aa bb (c + h - 1) dd x y z u g = false := canB_not (by obtain ⟨k0, k1, k2, k3, _, _⟩ := HKF.out; have := k2 hpos; omega)
                  have HCL := Lib.hid (fun W => (show Calls Tryd.prog 21 #[.agg #[.int .i64 aa, .int .i64 bb, .int .i64 (c + h - 1), .int .i64 dd], .agg #[.int .i64 x, .int .i64 y, .int .i64 z, .int .i64 u, .int .i64 g]] W fun e9 w' => e9 = .returned (.bool false) ∧ Kept No W w' from hcn ▸ can_any aa bb (c + h - 1) dd x y z u g W))
                  have q1 : IntKind.i64.wrap (c + h) = c + h := IntWalk.i64_in _ (by omega)
                  have q2 : IntKind.i64.wrap (c + h - 1) = c + h - 1 := IntWalk.i64_in _ (by omega)
                  clear hcn
                  obtain ⟨ws, hws⟩ : ∃ ws, wr.alloc (.cells #[.int .i64 aa, .int .i64 bb, .int .i64 cc, .int .i64 dd] 23) = ws := ⟨_, rfl⟩
                  obtain ⟨gs, hgs⟩ : ∃ gs, wr.heap.size = gs := ⟨_, rfl⟩
                  have HQ := Lib.hid (show SQ #[.int .i64 a, .int .i64 b, .int .i64 c, .int .i64 d] #[.int .i64 x, .int .i64 y, .int .i64 z, .int .i64 u, .int .i64 g] #[.int .i64 p, .int .i64 q, .int .i64 r, .int .i64 t] #[.int .i64 e, .int .i64 f, .int .i64 h, .int .i64 i, .int .i64 L] #[.int .i64 aa, .int .i64 bb, .int .i64 cc, .int .i64 dd] #[.int .i64 aa, .int .i64 bb, .int .i64 cc, .int .i64 dd] w gl gm go gs ws by
                    rw [← hws]
                    exact ⟨HZ.out.to ((Kept.refl No wr).alloc _), by rw [← hgs]; exact heap_alloc_new wr _, by rw [← hgs]; exact obj_lt HZ.out.ho⟩)
                  have o0 := obj_cell HZ.out.ho 0
                  have o1 := obj_cell HZ.out.ho 1
                  have o2 := obj_cell HZ.out.ho 2
                  have o3 := obj_cell HZ.out.ho 3
                  have s2 := obj_cell HQ.out.hq 2
                  have y2 := obj_free HQ.out.hq 2
                  have m2 : ws.cell? ⟨w.heap.size, 2, none⟩ = some (.int .i64 c) := obj_cell HQ.out.m.l.s.hm 2
                  have nn : ws.cell? ⟨gm, 2, none⟩ = some (.int .i64 h) := obj_cell HQ.out.m.l.hx 2
                  go_wp2_with fail
                  go_still_tail 11, (by kernel_rfl)
                  clear hws hgs
                  change wpList _ _ _ _ _ ws.drew
                  have HD := Lib.hid (HQ.out.to ((Kept.refl No ws).drew))
                  generalize ws.drew = wd at HD ⊢
                  have s2 := obj_cell HD.out.hq 2
                  have y2 := obj_free HD.out.hq 2
                  obtain ⟨w2, hw2⟩ : ∃ w2, wd.setCell ⟨gs, 2, none⟩ (.int .i64 (c + h - 1)) = w2 := ⟨_, rfl⟩
                  have H2 := Lib.hid (show SQ #[.int .i64 a, .int .i64 b, .int .i64 c, .int .i64 d] #[.int .i64 x, .int .i64 y, .int .i64 z, .int .i64 u, .int .i64 g] #[.int .i64 p, .int .i64 q, .int .i64 r, .int .i64 t] #[.int .i64 e, .int .i64 f, .int .i64 h, .int .i64 i, .int .i64 L] #[.int .i64 aa, .int .i64 bb, .int .i64 cc, .int .i64 dd] #[.int .i64 aa, .int .i64 bb, .int .i64 (c + h - 1), .int .i64 dd] w gl gm go gs w2 by rw [← hw2]; exact HD.out.put 2 _)
                  have s0 := obj_cell H2.out.hq 0
                  have s1 := obj_cell H2.out.hq 1
                  have s2 := obj_cell H2.out.hq 2
                  have s3 := obj_cell H2.out.hq 3
                  have c0 := obj_cell H2.out.m.l.s.hc 0
                  have c1 := obj_cell H2.out.m.l.s.hc 1
                  have c2 := obj_cell H2.out.m.l.s.hc 2
                  have c3 := obj_cell H2.out.m.l.s.hc 3
                  have c4 := obj_cell H2.out.m.l.s.hc 4
                  go_wp2_with fail
                  refine (HCL.out _).mono ?_
                  rintro e9 wx ⟨rfl, hk⟩
                  have H3 := Lib.hid (H2.out.m.to hk)
                  clear hk
                  go_wp2_with fail
                  go_roundw
                  case rel => first | exact ⟨3, by go_num, by decide, H3.out⟩ | ((repeat apply Exists.intro); exact ⟨⟨3, by go_num, by decide, H3.out⟩, rfl⟩)
                  case measure => simp [intOf]
                · go_wp2_with fail
                  go_roundw
                  case rel => first | exact ⟨3, by go_num, by decide, HZ.out⟩ | ((repeat apply Exists.intro); exact ⟨⟨3, by go_num, by decide, HZ.out⟩, rfl⟩)
                  case measure => simp [intOf]
              · have n3 : wr.cell? ⟨gm, 3, none⟩ = some (.int .i64 i) := obj_cell HZ.out.l.hx 3
                by_cases hpos : 0 < i
                · have hcn : canB aa bb cc (d + i - 1) x y z u g = false := canB_not (by obtain ⟨k0, k1, k2, k3, _, _⟩ := HKF.out; have := k3 hpos; omega)
                  have HCL := Lib.hid (fun W => (show Calls Tryd.prog 21 #[.agg #[.int .i64 aa, .int .i64 bb, .int .i64 cc, .int .i64 (d + i - 1)], .agg #[.int .i64 x, .int .i64 y, .int .i64 z, .int .i64 u, .int .i64 g]] W fun e9 w' => e9 = .returned (.bool false) ∧ Kept No W w' from hcn ▸ can_any aa bb cc (d + i - 1) x y z u g W))
                  have q1 : IntKind.i64.wrap (d + i) = d + i := IntWalk.i64_in _ (by omega)
                  have q2 : IntKind.i64.wrap (d + i - 1) = d + i - 1 := IntWalk.i64_in _ (by omega)
                  clear hcn
                  obtain ⟨ws, hws⟩ : ∃ ws, wr.alloc (.cells #[.int .i64 aa, .int .i64 bb, .int .i64 cc, .int .i64 dd] 23) = ws := ⟨_, rfl⟩
                  obtain ⟨gs, hgs⟩ : ∃ gs, wr.heap.size = gs := ⟨_, rfl⟩
                  have HQ := Lib.hid (show SQ #[.int .i64 a, .int .i64 b, .int .i64 c, .int .i64 d] #[.int .i64 x, .int .i64 y, .int .i64 z, .int .i64 u, .int .i64 g] #[.int .i64 p, .int .i64 q, .int .i64 r, .int .i64 t] #[.int .i64 e, .int .i64 f, .int .i64 h, .int .i64 i, .int .i64 L] #[.int .i64 aa, .int .i64 bb, .int .i64 cc, .int .i64 dd] #[.int .i64 aa, .int .i64 bb, .int .i64 cc, .int .i64 dd] w gl gm go gs ws by
                    rw [← hws]
                    exact ⟨HZ.out.to ((Kept.refl No wr).alloc _), by rw [← hgs]; exact heap_alloc_new wr _, by rw [← hgs]; exact obj_lt HZ.out.ho⟩)
                  have o0 := obj_cell HZ.out.ho 0
                  have o1 := obj_cell HZ.out.ho 1
                  have o2 := obj_cell HZ.out.ho 2
                  have o3 := obj_cell HZ.out.ho 3
                  have s3 := obj_cell HQ.out.hq 3
                  have y3 := obj_free HQ.out.hq 3
                  have m3 : ws.cell? ⟨w.heap.size, 3, none⟩ = some (.int .i64 d) := obj_cell HQ.out.m.l.s.hm 3
                  have nn : ws.cell? ⟨gm, 3, none⟩ = some (.int .i64 i) := obj_cell HQ.out.m.l.hx 3
                  go_wp2_with fail
                  go_still_tail 11, (by kernel_rfl)
                  clear hws hgs
                  change wpList _ _ _ _ _ ws.drew
                  have HD := Lib.hid (HQ.out.to ((Kept.refl No ws).drew))
                  generalize ws.drew = wd at HD ⊢
                  have s3 := obj_cell HD.out.hq 3
                  have y3 := obj_free HD.out.hq 3
                  obtain ⟨w2, hw2⟩ : ∃ w2, wd.setCell ⟨gs, 3, none⟩ (.int .i64 (d + i - 1)) = w2 := ⟨_, rfl⟩
                  have H2 := Lib.hid (show SQ #[.int .i64 a, .int .i64 b, .int .i64 c, .int .i64 d] #[.int .i64 x, .int .i64 y, .int .i64 z, .int .i64 u, .int .i64 g] #[.int .i64 p, .int .i64 q, .int .i64 r, .int .i64 t] #[.int .i64 e, .int .i64 f, .int .i64 h, .int .i64 i, .int .i64 L] #[.int .i64 aa, .int .i64 bb, .int .i64 cc, .int .i64 dd] #[.int .i64 aa, .int .i64 bb, .int .i64 cc, .int .i64 (d + i - 1)] w gl gm go gs w2 by rw [← hw2]; exact HD.out.put 3 _)
                  have s0 := obj_cell H2.out.hq 0
                  have s1 := obj_cell H2.out.hq 1
                  have s2 := obj_cell H2.out.hq 2
                  have s3 := obj_cell H2.out.hq 3
                  have c0 := obj_cell H2.out.m.l.s.hc 0
                  have c1 := obj_cell H2.out.m.l.s.hc 1
                  have c2 := obj_cell H2.out.m.l.s.hc 2
                  have c3 := obj_cell H2.out.m.l.s.hc 3
                  have c4 := obj_cell H2.out.m.l.s.hc 4
                  go_wp2_with fail
                  refine (HCL.out _).mono ?_
                  rintro e9 wx ⟨rfl, hk⟩
                  have H3 := Lib.hid (H2.out.m.to hk)
                  clear hk
                  go_wp2_with fail
                  go_roundw
                  case rel => first | exact ⟨4, by go_num, by decide, H3.out⟩ | ((repeat apply Exists.intro); exact ⟨⟨4, by go_num, by decide, H3.out⟩, rfl⟩)
                  case measure => simp [intOf]
                · go_wp2_with fail
                  go_roundw
                  case rel => first | exact ⟨4, by go_num, by decide, HZ.out⟩ | ((repeat apply Exists.intro); exact ⟨⟨4, by go_num, by decide, HZ.out⟩, rfl⟩)
                  case measure => simp [intOf]
              · go_wp2_with fail
                refine (known_any _ (HE.out.kept HZ.out.l.s.kept)).mono ?_
                rintro e9 wk ⟨rfl, hk⟩
                have HKF := Lib.hid ((HZ.out.l.s.kept).and hk)
                clear hk
                go_wp2_with fail
                go_ret
                exact ⟨rfl, HKF.out⟩
theorem walk_holds (a b c d x y z u g : Int) (w : World) (hE : Errs w) : Calls Tryd.prog 6 #[.agg #[.int .i64 a, .int .i64 b, .int .i64 c, .int .i64 d], .agg #[.int .i64 x, .int .i64 y, .int .i64 z, .int .i64 u, .int .i64 g]] w fun e w' => e = .returned (.bool true) ∧ Kept No w w' := by
  cases hi : in4 99 a b c d
  · exact holds_bad a b c d x y z u g w hE (by rw [hi]; rfl)
  · cases hj : cost x y z u g
    · exact holds_bad a b c d x y z u g w hE (by rw [hi, hj]; rfl)
    · cases hc : canB a b c d x y z u g
      · exact holds_not a b c d x y z u g w hE hi hj hc
      · exact holds_can a b c d x y z u g w hE hi hj hc
end Go.Proofs.YtogfjegedfaekaaDoor
