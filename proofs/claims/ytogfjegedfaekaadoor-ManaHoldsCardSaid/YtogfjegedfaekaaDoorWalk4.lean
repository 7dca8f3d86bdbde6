/-
  Mana: the walk of ManaHolds.
-/
import Derived.Test.YtogfjegedfaekaaDoorLh
import Derived.Test.YtogfjegedfaekaaDoorWalk1
import Derived.Test.YtogfjegedfaekaaDoorWalkY
import Derived.StillTailTactics
import Derived.Deep.QuietTactic
set_option linter.unusedVariables false
set_option linter.unusedSimpArgs false
namespace Go.Proofs.YtogfjegedfaekaaDoor
open Go.RowKit Go.Zn Go.Zm
attribute [local go_sem] Oper.semAt_some

/-- what ManaHolds keeps: the pool, the cost, what is left, what is missing -/
structure SL (A C B M : Array Value) (w0 : World) (gl gm : Nat) (wr : World) : Prop where
  s : S2 A C w0 wr
  hl : wr.heap[gl]? = some (.cells B 23 (0, 0))
  hx : wr.heap[gm]? = some (.cells M 25 (0, 0))
  lt1 : w0.heap.size + 1 < gl
  lt2 : gl < gm
theorem SL.to {A C B M : Array Value} {w0 wr w' : World} {gl gm : Nat} (h : SL A C B M w0 gl gm wr) (hk : Kept No wr w') : SL A C B M w0 gl gm w' := ⟨h.s.to hk, hk.obj h.hl (not_no _), hk.obj h.hx (not_no _), h.lt1, h.lt2⟩
theorem SL.drewN {A C B M : Array Value} {w0 wr : World} {gl gm : Nat} (h : SL A C B M w0 gl gm wr) (n : Nat) : SL A C B M w0 gl gm (wr.drewN n) := h.to ((Kept.refl No wr).drewN n)
theorem SL.drew {A C B M : Array Value} {w0 wr : World} {gl gm : Nat} (h : SL A C B M w0 gl gm wr) : SL A C B M w0 gl gm wr.drew := h.to ((Kept.refl No wr).drew)
/-- and a further pool -/
structure SM (A C B M D : Array Value) (w0 : World) (gl gm go : Nat) (wr : World) : Prop where
  l : SL A C B M w0 gl gm wr
  ho : wr.heap[go]? = some (.cells D 23 (0, 0))
  lt3 : gm < go
theorem SM.to {A C B M D : Array Value} {w0 wr w' : World} {gl gm go : Nat} (h : SM A C B M D w0 gl gm go wr) (hk : Kept No wr w') : SM A C B M D w0 gl gm go w' := ⟨h.l.to hk, hk.obj h.ho (not_no _), h.lt3⟩
theorem SM.drew {A C B M D : Array Value} {w0 wr : World} {gl gm go : Nat} (h : SM A C B M D w0 gl gm go wr) : SM A C B M D w0 gl gm go wr.drew := h.to ((Kept.refl No wr).drew)
theorem SM.drewN {A C B M D : Array Value} {w0 wr : World} {gl gm go : Nat} (h : SM A C B M D w0 gl gm go wr) (n : Nat) : SM A C B M D w0 gl gm go (wr.drewN n) := h.to ((Kept.refl No wr).drewN n)
theorem SM.put {A C B M D : Array Value} {w0 wr : World} {gl gm go : Nat} (h : SM A C B M D w0 gl gm go wr) (k : Nat) (v : Value) : SM A C B M (D.setIfInBounds k v) w0 gl gm go (wr.setCell ⟨go, k, none⟩ v) := by
  have h1 := h.lt3
  have h2 := h.l.lt2
  have h3 := h.l.lt1
  exact ⟨⟨⟨obj_setCell h.l.s.hm _ (by simp; omega), obj_setCell h.l.s.hc _ (by simp; omega), h.l.s.kept.setCell (fun k => by simp at k; omega) _⟩, obj_setCell h.l.hl _ (by simp; omega), obj_setCell h.l.hx _ (by simp; omega), h3, h2⟩, obj_store h.ho k v, h1⟩
def mo1 (a b c d e f h i : Int) : Nat → Array Value
  | 0 => #[.int .i64 a, .int .i64 b, .int .i64 c, .int .i64 d]
  | 1 => #[.int .i64 (a + e), .int .i64 b, .int .i64 c, .int .i64 d]
  | 2 => #[.int .i64 (a + e), .int .i64 (b + f), .int .i64 c, .int .i64 d]
  | 3 => #[.int .i64 (a + e), .int .i64 (b + f), .int .i64 (c + h), .int .i64 d]
  | _ => #[.int .i64 (a + e), .int .i64 (b + f), .int .i64 (c + h), .int .i64 (d + i)]
def mo2 (a b c d e f h i : Int) (n : Int) : Array Value := #[.int .i64 (a + e + (n + 3) / 4), .int .i64 (b + f + (n + 2) / 4), .int .i64 (c + h + (n + 1) / 4), .int .i64 (d + i + (n + 0) / 4)]
set_option maxRecDepth 100000 in
set_option maxHeartbeats 8000000 in
theorem holds_bad (a b c d x y z u g : Int) (w : World) (hE : Errs w) (hb : (in4 99 a b c d && cost x y z u g) = false) : Calls Tryd.prog 6 #[.agg #[.int .i64 a, .int .i64 b, .int .i64 c, .int .i64 d], .agg #[.int .i64 x, .int .i64 y, .int .i64 z, .int .i64 u, .int .i64 g]] w fun e w' => e = .returned (.bool true) ∧ Kept No w w' := by
  have HE := Lib.hid hE
  clear hE
  obtain ⟨w1, hw1⟩ : ∃ w1, (w.alloc (.cells #[.int .i64 a, .int .i64 b, .int .i64 c, .int .i64 d] 23)).alloc (.cells #[.int .i64 x, .int .i64 y, .int .i64 z, .int .i64 u, .int .i64 g] 25) = w1 := ⟨_, rfl⟩
  have H1 := Lib.hid (show S2 #[.int .i64 a, .int .i64 b, .int .i64 c, .int .i64 d] #[.int .i64 x, .int .i64 y, .int .i64 z, .int .i64 u, .int .i64 g] w w1 by rw [← hw1]; exact S2.start w)
  have m0 := obj_cell H1.out.hm 0
  have m1 := obj_cell H1.out.hm 1
  have m2 := obj_cell H1.out.hm 2
  have m3 := obj_cell H1.out.hm 3
  have c0 := obj_cell H1.out.hc 0
  have c1 := obj_cell H1.out.hc 1
  have c2 := obj_cell H1.out.hc 2
  have c3 := obj_cell H1.out.hc 3
  have c4 := obj_cell H1.out.hc 4
  cases hi : in4 99 a b c d
  · clear hb
    have HMV := Lib.hid (fun W => (show Calls Tryd.prog 12 #[.agg #[.int .i64 a, .int .i64 b, .int .i64 c, .int .i64 d]] W fun e w' => e = .returned (.bool false) ∧ Kept No W w' from hi ▸ valid_any a b c d W))
    clear hi
    go_enter Tryd.func6, Tryd.ntmps6
    go_wp2_with fail
    refine (HMV.out _).mono ?_
    rintro e9 w2 ⟨rfl, hk⟩
    have H2 := Lib.hid (H1.out.to hk)
    clear hk
    have m0 := obj_cell H2.out.hm 0
    have m1 := obj_cell H2.out.hm 1
    have m2 := obj_cell H2.out.hm 2
    have m3 := obj_cell H2.out.hm 3
    have c0 := obj_cell H2.out.hc 0
    have c1 := obj_cell H2.out.hc 1
    have c2 := obj_cell H2.out.hc 2
    have c3 := obj_cell H2.out.hc 3
    have c4 := obj_cell H2.out.hc 4
    go_wp2_with fail
    refine (known_any _ (HE.out.kept H2.out.kept)).mono ?_
    rintro e9 wk ⟨rfl, hk⟩
    have HKF := Lib.hid ((H2.out.kept).and hk)
    clear hk
    go_wp2_with fail
    go_ret
    exact ⟨rfl, HKF.out⟩
  · have hj : cost x y z u g = false := by rw [hi] at hb; exact hb
    clear hb
    have HMV := Lib.hid (fun W => (show Calls Tryd.prog 12 #[.agg #[.int .i64 a, .int .i64 b, .int .i64 c, .int .i64 d]] W fun e w' => e = .returned (.bool true) ∧ Kept No W w' from hi ▸ valid_any a b c d W))
    have HMC := Lib.hid (fun W => (show Calls Tryd.prog 13 #[.agg #[.int .i64 x, .int .i64 y, .int .i64 z, .int .i64 u, .int .i64 g]] W fun e w' => e = .returned (.bool false) ∧ Kept No W w' from hj ▸ validCost_any x y z u g W))
    clear hj
    clear hi
    go_enter Tryd.func6, Tryd.ntmps6
    go_wp2_with fail
    refine (HMV.out _).mono ?_
    rintro e9 w2 ⟨rfl, hk⟩
    have H2 := Lib.hid (H1.out.to hk)
    clear hk
    have m0 := obj_cell H2.out.hm 0
    have m1 := obj_cell H2.out.hm 1
    have m2 := obj_cell H2.out.hm 2
    have m3 := obj_cell H2.out.hm 3
    have c0 := obj_cell H2.out.hc 0
    have c1 := obj_cell H2.out.hc 1
    have c2 := obj_cell H2.out.hc 2
    have c3 := obj_cell H2.out.hc 3
    have c4 := obj_cell H2.out.hc 4
    go_wp2_with fail
    refine (HMC.out _).mono ?_
    rintro e9 w3 ⟨rfl, hk⟩
    have H3 := Lib.hid (H2.out.to hk)
    clear hk
    have m0 := obj_cell H3.out.hm 0
    have m1 := obj_cell H3.out.hm 1
    have m2 := obj_cell H3.out.hm 2
    have m3 := obj_cell H3.out.hm 3
    have c0 := obj_cell H3.out.hc 0
    have c1 := obj_cell H3.out.hc 1
    have c2 := obj_cell H3.out.hc 2
    have c3 := obj_cell H3.out.hc 3
    have c4 := obj_cell H3.out.hc 4
    go_wp2_with fail
    refine (known_any _ (HE.out.kept H3.out.kept)).mono ?_
    rintro e9 wk ⟨rfl, hk⟩
    have HKF := Lib.hid ((H3.out.kept).and hk)
    clear hk
    go_wp2_with fail
    go_ret
    exact ⟨rfl, HKF.out⟩
set_option maxRecDepth 100000 in
set_option maxHeartbeats 8000000 in
theorem holds_can (a b c d x y z u g : Int) (w : World) (hE : Errs w) (hi : in4 99 a b c d = true) (hj : cost x y z u g = true) (hc : canB a b c d x y z u g = true) : Calls Tryd.prog 6 #[.agg #[.int .i64 a, .int .i64 b, .int .i64 c, .int .i64 d], .agg #[.int .i64 x, .int .i64 y, .int .i64 z, .int .i64 u, .int .i64 g]] w fun e w' => e = .returned (.bool true) ∧ Kept No w w' := by
  have HE := Lib.hid hE
  clear hE
  obtain ⟨w1, hw1⟩ : ∃ w1, (w.alloc (.cells #[.int .i64 a, .int .i64 b, .int .i64 c, .int .i64 d] 23)).alloc (.cells #[.int .i64 x, .int .i64 y, .int .i64 z, .int .i64 u, .int .i64 g] 25) = w1 := ⟨_, rfl⟩
  have H1 := Lib.hid (show S2 #[.int .i64 a, .int .i64 b, .int .i64 c, .int .i64 d] #[.int .i64 x, .int .i64 y, .int .i64 z, .int .i64 u, .int .i64 g] w w1 by rw [← hw1]; exact S2.start w)
  have m0 := obj_cell H1.out.hm 0
  have m1 := obj_cell H1.out.hm 1
  have m2 := obj_cell H1.out.hm 2
  have m3 := obj_cell H1.out.hm 3
  have c0 := obj_cell H1.out.hc 0
  have c1 := obj_cell H1.out.hc 1
  have c2 := obj_cell H1.out.hc 2
  have c3 := obj_cell H1.out.hc 3
  have c4 := obj_cell H1.out.hc 4
  have HMV := Lib.hid (fun W => (show Calls Tryd.prog 12 #[.agg #[.int .i64 a, .int .i64 b, .int .i64 c, .int .i64 d]] W fun e w' => e = .returned (.bool true) ∧ Kept No W w' from hi ▸ valid_any a b c d W))
  have HMC := Lib.hid (fun W => (show Calls Tryd.prog 13 #[.agg #[.int .i64 x, .int .i64 y, .int .i64 z, .int .i64 u, .int .i64 g]] W fun e w' => e = .returned (.bool true) ∧ Kept No W w' from hj ▸ validCost_any x y z u g W))
  have HTX := Lib.hid (fun W => k_text hj W)
  have hgt := good_text hj
  obtain ⟨l, hl⟩ : ∃ l, costT x.toNat y.toNat z.toNat u.toNat g.toNat = l := ⟨_, rfl⟩
  rw [hl] at HTX hgt
  have HPS := Lib.hid (fun W hE => k_good hgt.1 hgt.2 W hE (by have := pOk_len hgt.1; unfold maxLen; omega))
  clear hgt hl
  have hpe : payE a b c d x y z u g = 0 := by simp [payE, hi, hj, hc]
  have HPY := Lib.hid (fun W => pay_any a b c d x y z u g W)
  have HMI := Lib.hid (fun W => miss_any a b c d x y z u g W)
  have HCA := Lib.hid (fun W => (show Calls Tryd.prog 21 #[.agg #[.int .i64 a, .int .i64 b, .int .i64 c, .int .i64 d], .agg #[.int .i64 x, .int .i64 y, .int .i64 z, .int .i64 u, .int .i64 g]] W fun e w' => e = .returned (.bool true) ∧ Kept No W w' from hc ▸ can_any a b c d x y z u g W))
  obtain ⟨p, q, r, t, hP, ⟨p0, p1⟩, ⟨q0, q1⟩, ⟨r0, r1⟩, ⟨t0, t1⟩, hsum⟩ := pay_facts hc
  have hmz : missM a b c d x y z u g = ⟨⟨0, 0, 0, 0⟩, 0⟩ := by
    have hc2 := hc
    unfold canB at hc2
    rw [hi, hj] at hc2
    have hz : zero (misM ⟨x, y, z, u⟩ ⟨a, b, c, d⟩) (lack ⟨x, y, z, u⟩ ⟨a, b, c, d⟩ g) = true := hc2
    simp only [zero, Bool.and_eq_true, beq_iff_eq] at hz
    obtain ⟨⟨⟨⟨z1, z2⟩, z3⟩, z4⟩, z5⟩ := hz
    simp only [missM, hi, hj, Bool.and_self, if_true]
    rw [z5]
    congr 1
    exact M4.ext' z1 z2 z3 z4
  obtain ⟨e, f, h, i, L, hM, e0, f0, h0, i0, L0⟩ : ∃ e f h i L : Int, missM a b c d x y z u g = ⟨⟨e, f, h, i⟩, L⟩ ∧ e = 0 ∧ f = 0 ∧ h = 0 ∧ i = 0 ∧ L = 0 := ⟨0, 0, 0, 0, 0, hmz, rfl, rfl, rfl, rfl, rfl⟩
  have heq : ∀ W, Sem.run Tryd.prog (binOp .eql 25 (.agg #[.int .i64 e, .int .i64 f, .int .i64 h, .int .i64 i, .int .i64 L]) (.agg #[.int .i64 0, .int .i64 0, .int .i64 0, .int .i64 0, .int .i64 0])) W = .ok (.bool true) W := fun W => by rw [eql5, e0, f0, h0, i0, L0]; rfl
  clear hmz e0 f0 h0 i0 L0
  rw [hP, hpe] at HPY
  rw [hM] at HMI
  clear hP hM hpe
  obtain ⟨⟨a1, a2⟩, ⟨b1, b2⟩, ⟨y9, y8⟩, ⟨d1, d2⟩⟩ := in4_out hi
  obtain ⟨hX, g1, g2⟩ := cost_out hj
  obtain ⟨⟨x1, x2⟩, ⟨y1, y2⟩, ⟨z1, z2⟩, ⟨u1, u2⟩⟩ := in4_out hX
  have hip : in4 99 p q r t = true := in4_yes fun j hj => by
    obtain rfl | rfl | rfl | rfl : j = 0 ∨ j = 1 ∨ j = 2 ∨ j = 3 := by omega
    all_goals (simp only [at4]; omega)
  have HT1 := Lib.hid (fun W => (show Calls Tryd.prog 14 #[.agg #[.int .i64 a, .int .i64 b, .int .i64 c, .int .i64 d]] W fun e w' => e = .returned (.int .i64 (a + b + c + d)) ∧ Kept No W w' from (total_any a b c d W).mono fun e w' ⟨he, hk⟩ => ⟨he.trans (by unfold tot; rw [hi]; rfl), hk⟩))
  have HT2 := Lib.hid (fun W => (show Calls Tryd.prog 14 #[.agg #[.int .i64 p, .int .i64 q, .int .i64 r, .int .i64 t]] W fun e w' => e = .returned (.int .i64 (p + q + r + t)) ∧ Kept No W w' from (total_any p q r t W).mono fun e w' ⟨he, hk⟩ => ⟨he.trans (by unfold tot; rw [hip]; rfl), hk⟩))
  have HVA := Lib.hid (fun W => (show Calls Tryd.prog 15 #[.agg #[.int .i64 x, .int .i64 y, .int .i64 z, .int .i64 u, .int .i64 g]] W fun e w' => e = .returned (.int .i64 (x + y + z + u + g)) ∧ Kept No W w' from (value_any x y z u g W).mono fun e w' ⟨he, hk⟩ => ⟨he.trans (by unfold val; rw [hj]; rfl), hk⟩))
  have hw1' : IntKind.i64.wrap (a + b + c + d - (p + q + r + t)) = a + b + c + d - (p + q + r + t) := IntWalk.i64_in _ (by omega)
  have hnq : (a + b + c + d - (p + q + r + t) != x + y + z + u + g) = false := by simp; omega
  clear hi hj hc hip hsum
  clear hX
  go_enter Tryd.func6, Tryd.ntmps6
  go_wp2_with fail
  refine (HMV.out _).mono ?_
  rintro e9 w2 ⟨rfl, hk⟩
  have H2 := Lib.hid (H1.out.to hk)
  clear hk
  have m0 := obj_cell H2.out.hm 0
  have m1 := obj_cell H2.out.hm 1
  have m2 := obj_cell H2.out.hm 2
  have m3 := obj_cell H2.out.hm 3
  have c0 := obj_cell H2.out.hc 0
  have c1 := obj_cell H2.out.hc 1
  have c2 := obj_cell H2.out.hc 2
  have c3 := obj_cell H2.out.hc 3
  have c4 := obj_cell H2.out.hc 4
  go_wp2_with fail
  refine (HMC.out _).mono ?_
  rintro e9 w3 ⟨rfl, hk⟩
  have H3 := Lib.hid (H2.out.to hk)
  clear hk
  have m0 := obj_cell H3.out.hm 0
  have m1 := obj_cell H3.out.hm 1
  have m2 := obj_cell H3.out.hm 2
  have m3 := obj_cell H3.out.hm 3
  have c0 := obj_cell H3.out.hc 0
  have c1 := obj_cell H3.out.hc 1
  have c2 := obj_cell H3.out.hc 2
  have c3 := obj_cell H3.out.hc 3
  have c4 := obj_cell H3.out.hc 4
  go_wp2_with fail
  refine (HTX.out _).mono ?_
  rintro e9 w4 ⟨rfl, hk⟩
  have H4 := Lib.hid (H3.out.to hk)
  clear hk
  have m0 := obj_cell H4.out.hm 0
  have m1 := obj_cell H4.out.hm 1
  have m2 := obj_cell H4.out.hm 2
  have m3 := obj_cell H4.out.hm 3
  have c0 := obj_cell H4.out.hc 0
  have c1 := obj_cell H4.out.hc 1
  have c2 := obj_cell H4.out.hc 2
  have c3 := obj_cell H4.out.hc 3
  have c4 := obj_cell H4.out.hc 4
  go_wp2_with fail
  refine (HPS.out _ (HE.out.kept H4.out.kept)).mono ?_
  rintro e9 w5 ⟨rfl, hk⟩
  have H5 := Lib.hid (H4.out.to hk)
  clear hk
  have m0 := obj_cell H5.out.hm 0
  have m1 := obj_cell H5.out.hm 1
  have m2 := obj_cell H5.out.hm 2
  have m3 := obj_cell H5.out.hm 3
  have c0 := obj_cell H5.out.hc 0
  have c1 := obj_cell H5.out.hc 1
  have c2 := obj_cell H5.out.hc 2
  have c3 := obj_cell H5.out.hc 3
  have c4 := obj_cell H5.out.hc 4
  go_wp2_with fail
  refine (HPY.out _).mono ?_
  rintro e9 w6 ⟨rfl, hk⟩
  obtain ⟨w7, hw7⟩ : ∃ w7, w6.alloc (.cells #[.int .i64 p, .int .i64 q, .int .i64 r, .int .i64 t] 23) = w7 := ⟨_, rfl⟩
  obtain ⟨gl, hgl⟩ : ∃ gl, w6.heap.size = gl := ⟨_, rfl⟩
  have H7 := Lib.hid (show S2 #[.int .i64 a, .int .i64 b, .int .i64 c, .int .i64 d] #[.int .i64 x, .int .i64 y, .int .i64 z, .int .i64 u, .int .i64 g] w w7 by rw [← hw7]; exact (H5.out.to hk).to ((Kept.refl No w6).alloc _))
  have HL7 := Lib.hid (show w7.heap[gl]? = some (.cells #[.int .i64 p, .int .i64 q, .int .i64 r, .int .i64 t] 23 (0, 0)) by rw [← hw7, ← hgl]; exact heap_alloc_new w6 _)
  have HG7 := Lib.hid (show w.heap.size + 1 < gl by rw [← hgl]; exact obj_lt (hk.obj H5.out.hc (not_no _)))
  clear hk
  have m0 := obj_cell H7.out.hm 0
  have m1 := obj_cell H7.out.hm 1
  have m2 := obj_cell H7.out.hm 2
  have m3 := obj_cell H7.out.hm 3
  have c0 := obj_cell H7.out.hc 0
  have c1 := obj_cell H7.out.hc 1
  have c2 := obj_cell H7.out.hc 2
  have c3 := obj_cell H7.out.hc 3
  have c4 := obj_cell H7.out.hc 4
  go_wp2_with fail
  refine (HMI.out _).mono ?_
  rintro e9 w8 ⟨rfl, hk⟩
  obtain ⟨w9, hw9⟩ : ∃ w9, w8.alloc (.cells #[.int .i64 e, .int .i64 f, .int .i64 h, .int .i64 i, .int .i64 L] 25) = w9 := ⟨_, rfl⟩
  obtain ⟨gm, hgm⟩ : ∃ gm, w8.heap.size = gm := ⟨_, rfl⟩
  have H9 := Lib.hid (show SL #[.int .i64 a, .int .i64 b, .int .i64 c, .int .i64 d] #[.int .i64 x, .int .i64 y, .int .i64 z, .int .i64 u, .int .i64 g] #[.int .i64 p, .int .i64 q, .int .i64 r, .int .i64 t] #[.int .i64 e, .int .i64 f, .int .i64 h, .int .i64 i, .int .i64 L] w gl gm w9 by
    rw [← hw9]
    exact ⟨(H7.out.to hk).to ((Kept.refl No w8).alloc _), obj_alloc (hk.obj HL7.out (not_no _)) _, by rw [← hgm]; exact heap_alloc_new w8 _, HG7.out, by rw [← hgm]; exact obj_lt (hk.obj HL7.out (not_no _))⟩)
  clear hk
  have m0 := obj_cell H9.out.s.hm 0
  have m1 := obj_cell H9.out.s.hm 1
  have m2 := obj_cell H9.out.s.hm 2
  have m3 := obj_cell H9.out.s.hm 3
  have c0 := obj_cell H9.out.s.hc 0
  have c1 := obj_cell H9.out.s.hc 1
  have c2 := obj_cell H9.out.s.hc 2
  have c3 := obj_cell H9.out.s.hc 3
  have c4 := obj_cell H9.out.s.hc 4
  have v0 := obj_cell H9.out.hl 0
  have v1 := obj_cell H9.out.hl 1
  have v2 := obj_cell H9.out.hl 2
  have v3 := obj_cell H9.out.hl 3
  have n0 := obj_cell H9.out.hx 0
  have n1 := obj_cell H9.out.hx 1
  have n2 := obj_cell H9.out.hx 2
  have n3 := obj_cell H9.out.hx 3
  have n4 := obj_cell H9.out.hx 4
  go_wp2_with fail
  refine (HCA.out _).mono ?_
  rintro e9 w10 ⟨rfl, hk⟩
  have HZ := Lib.hid (H9.out.to hk)
  clear hk
  have m0 := obj_cell HZ.out.s.hm 0
  have m1 := obj_cell HZ.out.s.hm 1
  have m2 := obj_cell HZ.out.s.hm 2
  have m3 := obj_cell HZ.out.s.hm 3
  have c0 := obj_cell HZ.out.s.hc 0
  have c1 := obj_cell HZ.out.s.hc 1
  have c2 := obj_cell HZ.out.s.hc 2
  have c3 := obj_cell HZ.out.s.hc 3
  have c4 := obj_cell HZ.out.s.hc 4
  have v0 := obj_cell HZ.out.hl 0
  have v1 := obj_cell HZ.out.hl 1
  have v2 := obj_cell HZ.out.hl 2
  have v3 := obj_cell HZ.out.hl 3
  have n0 := obj_cell HZ.out.hx 0
  have n1 := obj_cell HZ.out.hx 1
  have n2 := obj_cell HZ.out.hx 2
  have n3 := obj_cell HZ.out.hx 3
  have n4 := obj_cell HZ.out.hx 4
  go_wp2_with fail
  go_region_held3 (fun w' => w'.cell? ⟨w.heap.size, 0, none⟩ = some (.int .i64 a) ∧ w'.cell? ⟨w.heap.size, 1, none⟩ = some (.int .i64 b) ∧ w'.cell? ⟨w.heap.size, 2, none⟩ = some (.int .i64 c) ∧ w'.cell? ⟨w.heap.size, 3, none⟩ = some (.int .i64 d) ∧ w'.cell? ⟨w.heap.size + 1, 0, none⟩ = some (.int .i64 x) ∧ w'.cell? ⟨w.heap.size + 1, 1, none⟩ = some (.int .i64 y) ∧ w'.cell? ⟨w.heap.size + 1, 2, none⟩ = some (.int .i64 z) ∧ w'.cell? ⟨w.heap.size + 1, 3, none⟩ = some (.int .i64 u) ∧ w'.cell? ⟨w.heap.size + 1, 4, none⟩ = some (.int .i64 g) ∧ w'.cell? ⟨gl, 0, none⟩ = some (.int .i64 p) ∧ w'.cell? ⟨gl, 1, none⟩ = some (.int .i64 q) ∧ w'.cell? ⟨gl, 2, none⟩ = some (.int .i64 r) ∧ w'.cell? ⟨gl, 3, none⟩ = some (.int .i64 t) ∧ w'.cell? ⟨gm, 0, none⟩ = some (.int .i64 e) ∧ w'.cell? ⟨gm, 1, none⟩ = some (.int .i64 f) ∧ w'.cell? ⟨gm, 2, none⟩ = some (.int .i64 h) ∧ w'.cell? ⟨gm, 3, none⟩ = some (.int .i64 i) ∧ w'.cell? ⟨gm, 4, none⟩ = some (.int .i64 L)) (first | go_keep | exact ⟨m0, m1, m2, m3, c0, c1, c2, c3, c4, v0, v1, v2, v3, n0, n1, n2, n3, n4⟩)
    (first | (go_at_call 14; (with_reducible refine (HT1.out _).mono ?_); rintro e9 wz ⟨rfl, hk⟩; have m0 := hk.cell m0 (not_no _); have m1 := hk.cell m1 (not_no _); have m2 := hk.cell m2 (not_no _); have m3 := hk.cell m3 (not_no _); have c0 := hk.cell c0 (not_no _); have c1 := hk.cell c1 (not_no _); have c2 := hk.cell c2 (not_no _); have c3 := hk.cell c3 (not_no _); have c4 := hk.cell c4 (not_no _); have v0 := hk.cell v0 (not_no _); have v1 := hk.cell v1 (not_no _); have v2 := hk.cell v2 (not_no _); have v3 := hk.cell v3 (not_no _); have n0 := hk.cell n0 (not_no _); have n1 := hk.cell n1 (not_no _); have n2 := hk.cell n2 (not_no _); have n3 := hk.cell n3 (not_no _); have n4 := hk.cell n4 (not_no _); have HZ := Lib.hid (HZ.out.to (by first | exact hk | exact hk.of_drew)); clear hk) | (go_at_call 14; (with_reducible refine (HT2.out _).mono ?_); rintro e9 wz ⟨rfl, hk⟩; have m0 := hk.cell m0 (not_no _); have m1 := hk.cell m1 (not_no _); have m2 := hk.cell m2 (not_no _); have m3 := hk.cell m3 (not_no _); have c0 := hk.cell c0 (not_no _); have c1 := hk.cell c1 (not_no _); have c2 := hk.cell c2 (not_no _); have c3 := hk.cell c3 (not_no _); have c4 := hk.cell c4 (not_no _); have v0 := hk.cell v0 (not_no _); have v1 := hk.cell v1 (not_no _); have v2 := hk.cell v2 (not_no _); have v3 := hk.cell v3 (not_no _); have n0 := hk.cell n0 (not_no _); have n1 := hk.cell n1 (not_no _); have n2 := hk.cell n2 (not_no _); have n3 := hk.cell n3 (not_no _); have n4 := hk.cell n4 (not_no _); have HZ := Lib.hid (HZ.out.to (by first | exact hk | exact hk.of_drew)); clear hk) | (go_at_call 15; (with_reducible refine (HVA.out _).mono ?_); rintro e9 wz ⟨rfl, hk⟩; have m0 := hk.cell m0 (not_no _); have m1 := hk.cell m1 (not_no _); have m2 := hk.cell m2 (not_no _); have m3 := hk.cell m3 (not_no _); have c0 := hk.cell c0 (not_no _); have c1 := hk.cell c1 (not_no _); have c2 := hk.cell c2 (not_no _); have c3 := hk.cell c3 (not_no _); have c4 := hk.cell c4 (not_no _); have v0 := hk.cell v0 (not_no _); have v1 := hk.cell v1 (not_no _); have v2 := hk.cell v2 (not_no _); have v3 := hk.cell v3 (not_no _); have n0 := hk.cell n0 (not_no _); have n1 := hk.cell n1 (not_no _); have n2 := hk.cell n2 (not_no _); have n3 := hk.cell n3 (not_no _); have n4 := hk.cell n4 (not_no _); have HZ := Lib.hid (HZ.out.to (by first | exact hk | exact hk.of_drew)); clear hk))
  go_wp2_with fail
  go_loopw [70] (fun ii wr => ∃ k : Nat, ii = .int .i64 (k : Nat) ∧ k ≤ 4 ∧ SL #[.int .i64 a, .int .i64 b, .int .i64 c, .int .i64 d] #[.int .i64 x, .int .i64 y, .int .i64 z, .int .i64 u, .int .i64 g] #[.int .i64 p, .int .i64 q, .int .i64 r, .int .i64 t] #[.int .i64 e, .int .i64 f, .int .i64 h, .int .i64 i, .int .i64 L] w gl gm wr) (fun ii _ => 4 - (intOf ii).toNat)
  case atStart => exact ⟨0, rfl, by decide, HZ.out⟩
  case round =>
    obtain ⟨k, rfl, hk4, hp⟩ := hrel
    obtain rfl | rfl | rfl | rfl | rfl : k = 0 ∨ k = 1 ∨ k = 2 ∨ k = 3 ∨ k = 4 := by omega
    · have m0 : wr.cell? ⟨w.heap.size, 0, none⟩ = some (.int .i64 a) := obj_cell hp.s.hm 0
      have c0 : wr.cell? ⟨w.heap.size + 1, 0, none⟩ = some (.int .i64 x) := obj_cell hp.s.hc 0
      have v0 : wr.cell? ⟨gl, 0, none⟩ = some (.int .i64 p) := obj_cell hp.hl 0
      have HP := Lib.hid hp
      clear hp
      have q1 : decide (p < 0) = false := by simp; omega
      have q2 : IntKind.i64.wrap (a - p) = a - p := IntWalk.i64_in _ (by omega)
      have q3 : decide (a - p < x) = false := by simp; omega
      go_wp2_with fail
      go_quiet (fail)
      all_goals go_wp2_with fail
      all_goals exact ⟨⟨1, by go_num, by decide, HP.out.drewN _⟩, by simp [intOf]⟩
    · have m1 : wr.cell? ⟨w.heap.size, 1, none⟩ = some (.int .i64 b) := obj_cell hp.s.hm 1
      have c1 : wr.cell? ⟨w.heap.size + 1, 1, none⟩ = some (.int .i64 y) := obj_cell hp.s.hc 1
      have v1 : wr.cell? ⟨gl, 1, none⟩ = some (.int .i64 q) := obj_cell hp.hl 1
      have HP := Lib.hid hp
      clear hp
      have q1 : decide (q < 0) = false := by simp; omega
      have q2 : IntKind.i64.wrap (b - q) = b - q := IntWalk.i64_in _ (by omega)
      have q3 : decide (b - q < y) = false := by simp; omega
      go_wp2_with fail
      go_quiet (fail)
      all_goals go_wp2_with fail
      all_goals exact ⟨⟨2, by go_num, by decide, HP.out.drewN _⟩, by simp [intOf]⟩
    · have m2 : wr.cell? ⟨w.heap.size, 2, none⟩ = some (.int .i64 c) := obj_cell hp.s.hm 2
      have c2 : wr.cell? ⟨w.heap.size + 1, 2, none⟩ = some (.int .i64 z) := obj_cell hp.s.hc 2
      have v2 : wr.cell? ⟨gl, 2, none⟩ = some (.int .i64 r) := obj_cell hp.hl 2
      have HP := Lib.hid hp
      clear hp
      have q1 : decide (r < 0) = false := by simp; omega
      have q2 : IntKind.i64.wrap (c - r) = c - r := IntWalk.i64_in _ (by omega)
      have q3 : decide (c - r < z) = false := by simp; omega
      go_wp2_with fail
      go_quiet (fail)
      all_goals go_wp2_with fail
      all_goals exact ⟨⟨3, by go_num, by decide, HP.out.drewN _⟩, by simp [intOf]⟩
    · have m3 : wr.cell? ⟨w.heap.size, 3, none⟩ = some (.int .i64 d) := obj_cell hp.s.hm 3
      have c3 : wr.cell? ⟨w.heap.size + 1, 3, none⟩ = some (.int .i64 u) := obj_cell hp.s.hc 3
      have v3 : wr.cell? ⟨gl, 3, none⟩ = some (.int .i64 t) := obj_cell hp.hl 3
      have HP := Lib.hid hp
      clear hp
      have q1 : decide (t < 0) = false := by simp; omega
      have q2 : IntKind.i64.wrap (d - t) = d - t := IntWalk.i64_in _ (by omega)
      have q3 : decide (d - t < u) = false := by simp; omega
      go_wp2_with fail
      go_quiet (fail)
      all_goals go_wp2_with fail
      all_goals exact ⟨⟨4, by go_num, by decide, HP.out.drewN _⟩, by simp [intOf]⟩
    · have HKE := Lib.hid hp.s.kept
      clear hp
      go_wp2_with fail
      refine (known_any _ (HE.out.kept HKE.out)).mono ?_
      rintro e9 wk ⟨rfl, hk⟩
      have HKF := Lib.hid ((HKE.out).and hk)
      clear hk
      go_wp2_with fail
      go_ret
      exact ⟨rfl, HKF.out⟩
end Go.Proofs.YtogfjegedfaekaaDoor
