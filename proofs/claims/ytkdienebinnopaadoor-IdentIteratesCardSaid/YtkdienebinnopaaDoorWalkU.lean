/-
  IdentIterates: the walk, joined.
-/
import Derived.Test.YtkdienebinnopaaDoorWalkT
import Derived.LoopNIn
namespace Go.Proofs.YtkdienebinnopaaDoor
open Go.RowKit Go.Zn Go.Shelf
attribute [local go_sem] Oper.semAt_some

def LI (J : World → Prop) (r m : Int) (B15 B16 : Nat) (dd : Option Nat) {N : Nat} (pre : List (Pl N)) (W : World) : Prop := InOrder pre ∧ (r = 0 → pre.length = 0 ∨ (pre.length : Int) < m) ∧ RI J r B15 B16 dd pre.length W
def LX (J : World → Prop) (r m : Int) (B15 B16 : Nat) (dd : Option Nat) {N : Nat} (c : Code) (pre : List (Pl N)) (W : World) : Prop :=
  (c = .ret ∧ ¬ InOrder pre) ∨ (c = .exit 4 ∧ r = 0 ∧ m ≤ pre.length ∧ 1 ≤ pre.length ∧ pre.length ≤ N ∧ (pre.length = 1 ∨ (pre.length : Int) - 1 < m) ∧ RI J r B15 B16 dd pre.length W)
def JAbides (B : Nat) (J : World → Prop) : Prop := ∀ W W' row, J W → W.grownBy W' row → (∀ k, row = some k → B ≤ k) → J W'
theorem li_own {J : World → Prop} {B : Nat} (hJ : JAbides B J) (r m : Int) (B15 B16 : Nat) (dd : Option Nat) (hd : ∀ k, dd = some k → k < B) {N : Nat} : OwnFrom B (LI J r m B15 B16 dd (N := N)) :=
  fun pre W W' row h hg hr => ⟨h.1, h.2.1, h.2.2.grown hJ hg hr hd⟩
theorem lx_own {J : World → Prop} {B : Nat} (hJ : JAbides B J) (r m : Int) (B15 B16 : Nat) (dd : Option Nat) (hd : ∀ k, dd = some k → k < B) {N : Nat} (c : Code) : OwnFrom B (LX J r m B15 B16 dd (N := N) c) :=
  fun pre W W' row h hg hr => h.elim .inl (fun ⟨h1, h2, h3, h4, h5, h6, h7⟩ => .inr ⟨h1, h2, h3, h4, h5, h6, h7.grown hJ hg hr hd⟩)
theorem jt_abides {w : World} {b tb n B7 B13 bx N0 B : Nat} {m : Int} {l : List Nat} {v13 vx : Value} (hB : N0 ≤ B) : JAbides B (JT w b tb n B7 B13 bx N0 m l v13 vx) :=
  fun W W' row h hg hr => h.new ((Kept.refl _ W).grown hg (fun k e _ => Nat.le_trans hB (hr k e)))
theorem keepsOthers_of {T : Nat → Prop} {W W' : World} (h : Kept T W W') (hT : ∀ k o, T k → W.heap[k]? = some o → o.isCells = true) : KeepsOthers W W' :=
  ⟨h.size, fun k o hk ho => h.obj hk (fun e => by rw [hT k o e hk] at ho; cases ho)⟩
/-- the element that stands at a place of the list -/
theorem JT.at {w : World} {b tb n B7 B13 bx N0 : Nat} {m : Int} {l : List Nat} {v13 vx : Value} {wr : World} (h : JT w b tb n B7 B13 bx N0 m l v13 vx wr) {k : Nat} (hk : k < l.length) :
    ∃ g off cap, v13 = .slice (some ⟨g, off, none⟩) l.length cap ∧ wr.cell? ⟨g, off + k, none⟩ = some (.int .i64 (l.getD k 0 : Nat)) := by
  obtain ⟨_, _, ⟨_, h0⟩ | ⟨g, off, cap, hv, _, _, hc⟩⟩ := h.r13
  · omega
  · refine ⟨g, off, cap, hv, ?_⟩
    rw [hc k _ (ints_get l k hk), List.getD_eq_getElem?_getD, List.getElem?_eq_getElem hk]; rfl
set_option maxRecDepth 100000 in
set_option maxHeartbeats 6400000 in
theorem iter_ok (n L : Nat) (m : Int) (v : Value) (X : Nat → Int × Int) (w : World) (hl : Laid w) (h1 : 1 ≤ n) (h2 : n ≤ 200) (h3 : L ≤ 60) (harg : Acts w v L X) :
    Calls Tryd.prog 6 #[.int .i64 (n : Nat), v, .int .i64 m] w fun e w' => e = .returned (.bool true) ∧ Kept No w w' := by
  obtain ⟨ad, cap, rfl⟩ := harg.slice
  have HL := Lib.hid hl
  have HA := Lib.hid harg
  have d0 : decide ((n : Int) < 1) = false := by simp; omega
  have d1 : decide ((200 : Int) < (n : Int)) = false := by simp; omega
  have d2 : decide ((60 : Int) < (L : Int)) = false := by simp; omega
  obtain ⟨w1, hw1⟩ : ∃ w1, ((w.alloc (.cells #[.int .i64 (n : Nat)] 3)).alloc (.cells #[.int .i64 m] 3)).alloc (.cells #[.bool false] 4) = w1 := ⟨_, rfl⟩
  have hb : B3 w1 w.heap.size (n : Nat) m false := by rw [← hw1]; exact b3_new w (n : Nat) m
  have HK1 := Lib.hid (show Kept No w w1 by rw [← hw1]; exact (((Kept.refl No w).alloc _).alloc _).alloc _)
  have c0 := obj_cell hb.h0 0
  have c1 := obj_cell hb.h1 0
  have HB := Lib.hid hb
  clear hl harg hb
  refine (callsIn_wide (n := 9)).1 ?_
  refine callsIn_of_wp_marks Tryd.func6 rfl trivial ?_ rfl
  simp only [Tryd.ntmps6, List.size_toArray, List.length_cons, List.length_nil, Nat.reduceAdd, Nat.reduceSub, Array.replicate_succ, Array.replicate_zero, List.push_toArray, List.append_toArray, List.nil_append, List.cons_append]
  gi_wp2_with fail
  refine ⟨trivial, ?_⟩
  refine (callsIn_wide.2 (st_new w _ HK1.out n h1 (by omega))).mono ?_
  rintro e w2 ⟨b, tb, rfl, hs, hk2, -⟩
  obtain ⟨w3, hw3⟩ : ∃ w3, w2.alloc (.cells #[.pointer (some ⟨b, 0, none⟩)] 24) = w3 := ⟨_, rfl⟩
  obtain ⟨B7, hB7⟩ : ∃ B7, w2.heap.size = B7 := ⟨_, rfl⟩
  have hk3 : Kept No w2 w3 := by rw [← hw3]; exact (Kept.refl No w2).alloc _
  have hb3 := (HB.out.kept hk2 ⟨not_no _, not_no _, not_no _⟩).kept hk3 ⟨not_no _, not_no _, not_no _⟩
  have hb7 : w3.heap[B7]? = some (.cells #[.pointer (some ⟨b, 0, none⟩)] 24 (0, 0)) := by rw [← hw3]; exact World.alloc_at hB7.symm _
  have hne : w.heap.size + 2 < B7 := by have := obj_lt HB.out.h2; have := hk2.size; omega
  have HS := Lib.hid (hs.no hk3)
  have c0 := obj_cell hb3.h0 0
  have c7 := obj_cell hb7 0
  have HB3 := Lib.hid hb3
  have HB7 := Lib.hid (show w3.heap[B7]? = some (.cells #[.pointer (some ⟨b, 0, none⟩)] 24 (0, 0)) ∧ w.heap.size + 2 < B7 from ⟨hb7, hne⟩)
  clear hs hk2 hk3 hb3 hb7 hne c1 d0 d1 d2 HB
  gi_wp2_with fail
  refine ⟨trivial, ?_⟩
  refine (callsIn_wide.2 (rnew_ok n _ h1 (by omega))).mono ?_
  rintro e w4 ⟨v4, rfl, hr, hk4⟩
  obtain ⟨ad4, cap4, rfl⟩ := rd_slice hr
  have HI := Lib.hid (show IT w b tb n (fun _ => false) (.slice ad4 n cap4) B7 m w4 from
    ⟨⟨HS.out.no hk4, Rd.mono hr (fun i _ e => by have := HS.out.ids.lt; omega)⟩, HB3.out.kept hk4 ⟨not_no _, not_no _, not_no _⟩, hk4.obj HB7.out.1 (not_no _), HB7.out.2⟩)
  have c7 := hk4.cell c7 (not_no _)
  clear hr hk4 HB3 HB7 HS hw3 hB7
  gi_wp2_with fail
  gi_loopw [9, 48] (fun v i wr => IRel w n L B7 m v i wr) (fun _ i _ => L - (intOf i).toNat)
  case atStart => exact ⟨0, b, tb, _, rfl, Nat.zero_le _, HI.out⟩
  case round =>
    obtain ⟨j, b5, tb5, t5, rfl, hj, hi⟩ := hrel
    obtain ⟨ad5, cap5, rfl⟩ := rd_slice hi.ps.rf
    have HI5 := Lib.hid hi
    have HJ := Lib.hid hj
    have hjL : (j : Int) ≤ 60 := by omega
    have k0 := obj_cell hi.b3.h0 0
    have k7 := obj_cell hi.b7 0
    clear hi hj HI c0 c7
    by_cases hlt : j < L
    · have d3 : decide (j < L) = true := by simp; exact hlt
      obtain ⟨ab, off, cap', x, y, hv, g1, g2, hwy⟩ := HA.out.at HI5.out.ps.st.kept hlt
      cases hv
      have HLT := Lib.hid hlt
      have hjn : (0 : Int) ≤ (j : Int) := by omega
      have hjl : (j : Int) < (L : Int) := by omega
      have hk6 : Kept No wr (wr.alloc (.cells #[.int .i64 x, .int .i64 y] 35)) := (Kept.refl No wr).alloc _
      have k8 := hk6.cell k7 (not_no _)
      have HI6 := Lib.hid (show IT w b5 tb5 n t5 (.slice ad5 n cap5) B7 m (wr.alloc (.cells #[.int .i64 x, .int .i64 y] 35)) from ⟨HI5.out.ps.no hk6, HI5.out.b3.kept hk6 ⟨not_no _, not_no _, not_no _⟩, hk6.obj HI5.out.b7 (not_no _), HI5.out.ne⟩)
      clear hlt hk6 k7
      gi_wp2_with fail
      refine ⟨trivial, ?_⟩
      refine (callsIn_wide.2 (do_anyK HI6.out.ps HL.out x y)).mono ?_
      rintro e w7 ⟨b8, tb8, t8, v8, rfl, hp8, hk8⟩
      obtain ⟨ad8, cap8, rfl⟩ := rd_slice hp8.rf
      obtain ⟨hb8, h78⟩ := HI6.out.bk hk8
      have c8 := obj_cell h78 0
      have f8 := obj_free h78 0
      have HN := Lib.hid (IT.put hb8 h78 HI6.out.ne hp8)
      clear hp8 hk8 hb8 h78 k8 k0
      gi_wp2_with fail
      have q1 := HLT.out
      exact ⟨⟨j + 1, b8, tb8, t8, by go_num, by omega, HN.out⟩, by simp [intOf]; omega⟩
    · obtain rfl : j = L := by have := HJ.out; omega
      have d3 : decide (j < j) = false := by simp
      clear hlt
      gi_wp2_with fail
      refine ⟨trivial, ?_⟩
      refine (callsIn_wide.2 (rall_any HI5.out.ps.rf (by omega))).mono ?_
      rintro e w9 ⟨v9, rfl, hr9, hk9⟩
      have c9 := hk9.cell k7 (not_no _)
      have HI9 := Lib.hid (show PS w b5 tb5 n t5 (.slice ad5 n cap5) w9 ∧ B3 w9 w.heap.size (n : Nat) m false ∧ w9.heap[B7]? = some (.cells #[.pointer (some ⟨b5, 0, none⟩)] 24 (0, 0)) ∧ w.heap.size + 2 < B7 from
        ⟨HI5.out.ps.no hk9, HI5.out.b3.kept hk9 ⟨not_no _, not_no _, not_no _⟩, hk9.obj HI5.out.b7 (not_no _), HI5.out.ne⟩)
      have HR9 := Lib.hid hr9
      have HK9 := Lib.hid hk9
      clear hr9 hk9 k0 k7 HJ HA d3
      obtain ⟨w10, hw10⟩ : ∃ w10, w9.alloc (.cells #[v9] 22) = w10 := ⟨_, rfl⟩
      have hk10 : Kept No w9 w10 := by rw [← hw10]; exact (Kept.refl No w9).alloc _
      have c10 := hk10.cell c9 (not_no _)
      obtain ⟨B13, hB13⟩ : ∃ B13, w9.heap.size = B13 := ⟨_, rfl⟩
      have h13 : w10.heap[B13]? = some (.cells #[v9] 22 (0, 0)) := by rw [← hw10]; exact World.alloc_at hB13.symm _
      have H13 := Lib.hid h13
      have HK10 := Lib.hid hk10
      have HLT := Lib.hid (show b5 < w9.heap.size ∧ tb5 < w9.heap.size ∧ B7 < w9.heap.size ∧ wr.heap.size ≤ w9.heap.size ∧ tb5 < wr.heap.size from ⟨HI9.out.1.st.ids.lt.1, HI9.out.1.st.ids.lt.2, obj_lt HI9.out.2.2.1, HK9.out.size, HI5.out.ps.st.ids.lt.2⟩)
      rw [hB13] at HLT
      obtain ⟨ad9, cap9, rfl⟩ := rd_slice HR9.out
      clear hk10 h13 c9
      gi_wp2_with fail
      refine ⟨trivial, ?_⟩
      refine (callsIn_wide.2 (allf_any (HI9.out.1.st.no HK10.out).ids)).mono ?_
      rintro e w11 ⟨vx, bx, rfl, hbx, cx, hrx, hk11⟩
      obtain ⟨l, hl⟩ : ∃ l, idl t5 n = l := ⟨_, rfl⟩
      have hinj : ∀ i j : Nat, i < l.length → j < l.length → l.getD i 0 = l.getD j 0 → i = j := fun i j hi hj h => by rw [← hl] at hi hj h; exact idl_inj t5 n hi hj h
      have hlen : l.length ≤ 200 := by rw [← hl, idl_length]; have := cnt_le t5 n; omega
      rw [hl] at hrx HR9 H13 ⊢
      have hbl : bx < w11.heap.size := block_lt_of_cell cx
      have hsz10 := HK10.out.size
      have hsz11 := hk11.size
      have ho13 := obj_lt H13.out
      have hkk := HK10.out.and hk11
      have r13 := (Rd.kept (rd_lt HR9.out) hkk (fun _ _ _ => not_no _))
      have HJT := Lib.hid (show JT w b5 tb5 n B7 B13 bx w11.heap.size m l (.slice ad9 l.length cap9) vx w11 from
        ⟨⟨t5, HI9.out.1.st.no hkk⟩, HI9.out.2.1.kept hkk ⟨not_no _, not_no _, not_no _⟩, hkk.obj HI9.out.2.2.1 (not_no _), hk11.obj H13.out (not_no _), cx,
          (Rd.both (Rd.kept HR9.out hkk (fun _ _ _ => not_no _)) (rd_lt (Rd.kept HR9.out hkk (fun _ _ _ => not_no _)))).mono (fun i _ e => ⟨by have := e.1; have := HLT.out; omega, e.2⟩),
          (Rd.both hrx (rd_lt hrx)).mono (fun i _ e => ⟨by have := e.1; have := HLT.out; omega, e.2⟩),
          ⟨HI9.out.2.2.2, by have := HLT.out; omega, by omega, hbl, by have := HLT.out; omega, by have := HLT.out; omega, by have := HLT.out; omega⟩, Nat.le_refl _⟩)
      have hfn := fun cap W => run_func_nil (.func 37) #[] cap W
      have HINJ := Lib.hid hinj
      have HLEN := Lib.hid hlen
      clear hinj hlen hrx hbl hsz10 hsz11 ho13 hkk r13 hk11 cx hbx hl c10 HR9 H13 HK10 HLT HI9 hw10 hB13 HI5
      gi_wp2_with fail
      refine wpIn_loop_rounds 3 ?_
      rw [roundsIn_succ]
      gi_wp2_with fail
      have hno : Kept No w11 ((w11.alloc (.cells #[.int .i64 0] 3)).alloc (.cells #[.int .i64 0] 3)) := ((Kept.refl No w11).alloc _).alloc _
      obtain ⟨w13, hw13⟩ : ∃ w13, (w11.alloc (.cells #[.int .i64 0] 3)).alloc (.cells #[.int .i64 0] 3) = w13 := ⟨_, rfl⟩
      have hr15 : w13.heap[w11.heap.size]? = some (.cells #[.int .i64 0] 3 (0, 0)) := by rw [← hw13]; exact obj_alloc (heap_alloc_new w11 _) _
      have hr16 : w13.heap[w11.heap.size + 1]? = some (.cells #[.int .i64 0] 3 (0, 0)) := by rw [← hw13]; exact World.alloc_at (by simp) _
      have hs13 : w13.heap.size = w11.heap.size + 2 := by rw [← hw13]; simp
      rw [hw13] at hno ⊢
      obtain ⟨N0, hN0⟩ : ∃ N0, w11.heap.size = N0 := ⟨_, rfl⟩
      have hJ0 := HJT.out
      rw [hN0] at hJ0 hr15 hr16 hs13 ⊢
      have hJ13 := hJ0.new (hno.any (T := fun i => N0 ≤ i))
      have hord := hJ13.ord
      clear hw13 hno hJ0 HJT
      refine wpIn_rangeFunc_ownF (w0 := w13) rfl (by decide) (gf := 37) (lb := #[.pointer (some ⟨bx, 0, none⟩)]) rfl trivial (enters_of Tryd.func37 (by kernel_rfl) rfl)
        (values_order (fun i => i = tb5 ∨ N0 ≤ i) l.length bx vx l 8 (by decide) (by have := HLEN.out; omega) rfl (by omega) w13 (fun i hi => .inr (by omega)) hJ13.cx (hJ13.rx.mono (fun i _ e => by omega)))
        (fun h k => h.and k) (fun W lb o o' hl hh ho hw => (Kept.refl _ W).grown (grownBy_putObj' W lb o') (fun k e _ => by cases e; exact .inr (by omega))) (Below.refl _ _) (fun _ => rfl)
        (LI (JT w b5 tb5 n B7 B13 bx N0 m l (.slice ad9 l.length cap9) vx) 0 m N0 (N0 + 1) none) (LX (JT w b5 tb5 n B7 B13 bx N0 m l (.slice ad9 l.length cap9) vx) 0 m N0 (N0 + 1) none)
        (li_own (jt_abides (by omega)) _ _ _ _ _ (fun k e => by cases e)) (fun c => lx_own (jt_abides (by omega)) _ _ _ _ _ (fun k e => by cases e) c)
        ⟨inOrder_nil, fun _ => .inl rfl, ⟨hJ13, hr15, hr16, fun k e => by cases e⟩⟩ ?a1 ?assign ?body ?done ?stop
      case assign =>
        intro l x W K hK
        gi_wp2
        exact hK
      case body =>
        rintro lp pre y W ⟨hord2, hcond, hri⟩ hlen
        obtain ⟨y, hyl⟩ := y
        have hj := hri.j
        obtain ⟨g, off, cap', hv, g1⟩ := hj.at hlen
        cases hv
        have hordj := hj.ord
        have hsizej := hj.size
        have c16 := obj_cell hri.r16 0
        have f16 := obj_free hri.r16 0
        have c13 := obj_cell hj.b13 0
        have c7 := obj_cell hj.b7 0
        have c6 := obj_cell hj.b3.h2 0
        have f6 := obj_free hj.b3.h2 0
        obtain ⟨k, hk⟩ : ∃ k, pre.length = k := ⟨_, rfl⟩
        rw [hk] at c16 g1 hlen
        have d1 : decide (l.length ≤ k) = false := by simp; exact hlen
        have hk200 : (k : Int) ≤ 200 := by have := HLEN.out; omega
        have hkl : (k : Int) < (l.length : Int) := by omega
        have hll : (l.length : Int) ≤ 200 := by have := HLEN.out; omega
        have hk0 : (0 : Int) ≤ (k : Int) := by omega
        have hkS : Kept (fun i => i = (N0 + 1)) W (W.setCell ⟨(N0 + 1), 0, none⟩ (.int .i64 ((k : Int) + 1))) := (Kept.refl (fun i => i = (N0 + 1)) W).setCell (p := ⟨(N0 + 1), 0, none⟩) (fun _ => rfl) _
        have HRI := Lib.hid hri
        have HK := Lib.hid hk
        have HORD := Lib.hid hord2
        have HCO := Lib.hid hcond
        have HLE := Lib.hid hlen
        dsimp only
        by_cases hy : y = k
        · subst hy
          obtain ⟨z, hz⟩ : ∃ z : Int, ((l.getD y 0 : Nat) : Int) = z := ⟨_, rfl⟩
          rw [hz] at g1
          have hz' := hz
          rw [List.getD_eq_getElem?_getD] at hz'
          rw [hz']
          have dz : (z != z) = false := by simp
          have hj1 := hj.new (hkS.mono (T := fun i => N0 ≤ i) (fun i _ e => by have : i = (N0 + 1) := e; omega))
          have c71 := obj_cell hj1.b7 0
          obtain ⟨t1, hs1⟩ := hj1.st
          have r151 := hkS.obj hri.r15 (by omega)
          have r161 : (W.setCell ⟨(N0 + 1), 0, none⟩ (.int .i64 ((y : Int) + 1))).heap[(N0 + 1)]? = _ := obj_store hri.r16 0 _
          have HJ1 := Lib.hid hj1
          have HS1 := Lib.hid hs1
          have HR1 := Lib.hid (And.intro r151 r161)
          have HKS := Lib.hid hkS
          clear hri hj hj1 hs1 r151 r161 hkS hz hz' hk hord2 hcond hlen c7
          gi_wp2_with fail
          refine ⟨trivial, ?_⟩
          refine (CallsIn.inRound lp (callsIn_wide.2 (st_free HS1.out z))).mono ?_
          rintro e W2 ⟨rfl, hs2, hk2⟩
          have hj2 := HJ1.out.bk hs2 hk2
          have r152 := hk2.obj HR1.out.1 (show ¬ N0 = tb5 by omega)
          have r162 := hk2.obj HR1.out.2 (show ¬ (N0 + 1) = tb5 by omega)
          have c72 := obj_cell hj2.b7 0
          have c32 := obj_cell hj2.b3.h0 0
          have HS2 := Lib.hid hs2
          have HJ2 := Lib.hid hj2
          have HR2 := Lib.hid (And.intro r152 r162)
          have HK2 := Lib.hid hk2
          clear hs2 hk2 hj2 r152 r162 c71 c16 f16 c13
          gi_wp2_with fail
          refine ⟨trivial, ?_⟩
          refine (CallsIn.inRound lp (callsIn_wide.2 (st_claim HS2.out (n : Nat)))).mono ?_
          rintro e W3 ⟨rfl, hs3, hk3⟩
          have hj3 := HJ2.out.bk hs3 hk3
          have r153 := hk3.obj HR2.out.1 (show ¬ N0 = tb5 by omega)
          have r163 := hk3.obj HR2.out.2 (show ¬ (N0 + 1) = tb5 by omega)
          have c15 := obj_cell r153 0
          have c16 := obj_cell r163 0
          have c53 := obj_cell hj3.b3.h1 0
          have HJ3 := Lib.hid hj3
          have HR3 := Lib.hid (And.intro r153 r163)
          have HK3 := Lib.hid hk3
          clear hs3 hk3 hj3 r153 r163 c72 c32
          by_cases hbr : m ≤ (y : Int) + 1
          · have e9 : decide (m ≤ (y : Int) + 1) = true := by simp; exact hbr
            have HBR := Lib.hid hbr
            clear hbr
            gi_wp2_with fail
            have q1 := HBR.out
            have q2 := HK.out
            have q3 := HCO.out (by first | trivial | rfl)
            have q4 := HLE.out
            exact ⟨(keepsOthers_of HKS.out (fun k o e h => by cases e; rw [HRI.out.r16] at h; cases h; rfl)).trans ((keepsOthers_of HK2.out (fun k o e h => by cases e; obtain ⟨cs, h6, _⟩ := HS1.out.ids.ws; rw [h6] at h; cases h; rfl)).trans (keepsOthers_of HK3.out (fun k o e h => by cases e; obtain ⟨cs, h6, _⟩ := HS2.out.ids.ws; rw [h6] at h; cases h; rfl))), .inr ⟨rfl, rfl, by rw [List.length_append, HK.out]; simp; omega, by simp, by rw [List.length_append, HK.out]; simp; omega, by rw [List.length_append, HK.out]; simp; omega, ⟨HJ3.out, HR3.out.1, by rw [List.length_append, HK.out]; exact HR3.out.2, fun k e => by cases e⟩⟩⟩
          · have e9 : decide (m ≤ (y : Int) + 1) = false := by simp; omega
            have HBR := Lib.hid hbr
            clear hbr
            gi_wp2_with fail
            have q1 := HBR.out
            exact ⟨(keepsOthers_of HKS.out (fun k o e h => by cases e; rw [HRI.out.r16] at h; cases h; rfl)).trans ((keepsOthers_of HK2.out (fun k o e h => by cases e; obtain ⟨cs, h6, _⟩ := HS1.out.ids.ws; rw [h6] at h; cases h; rfl)).trans (keepsOthers_of HK3.out (fun k o e h => by cases e; obtain ⟨cs, h6, _⟩ := HS2.out.ids.ws; rw [h6] at h; cases h; rfl))), (HKS.out.mono (T := fun i => i = tb5 ∨ N0 ≤ i) (fun i _ e => .inr (by have : i = (N0 + 1) := e; omega))).and ((HK2.out.mono (fun i _ e => .inl e)).and (HK3.out.mono (fun i _ e => .inl e))), HORD.out.snoc HK.out.symm, fun _ => .inr (by rw [List.length_append, HK.out]; simp; omega), ⟨HJ3.out, HR3.out.1, by rw [List.length_append, HK.out]; exact HR3.out.2, fun k e => by cases e⟩⟩
        · obtain ⟨z, hz⟩ : ∃ z : Int, ((l.getD k 0 : Nat) : Int) = z := ⟨_, rfl⟩
          obtain ⟨z2, hz2⟩ : ∃ z2 : Int, ((l.getD y 0 : Nat) : Int) = z2 := ⟨_, rfl⟩
          have dz : (z2 != z) = true := by
            rw [bne_iff_ne]
            intro e
            exact hy (HINJ.out y k hyl HLE.out (by omega))
          rw [hz] at g1
          have hz' := hz2
          rw [List.getD_eq_getElem?_getD] at hz'
          rw [hz']
          have HY := Lib.hid hy
          have HB2 := Lib.hid hj.b3.h2
          clear hri hj hkS hz hz' hz2 hk hord2 hcond hlen hy
          gi_wp2_with fail
          exact ⟨(keepsOthers_of ((Kept.refl (fun i => i = w.heap.size + 2) W).setCell (p := ⟨w.heap.size + 2, 0, none⟩) (fun _ => rfl) _) (fun k o e h => by cases e; rw [HB2.out] at h; cases h; rfl)), .inl ⟨rfl, fun h => HY.out (h.last.trans HK.out)⟩⟩
      case done =>
        rintro D1 ys W1 hDl hS ⟨hord2, hcond, hri⟩ hD1
        have hyl : ys.length = l.length := by have := congrArg List.length hS; simpa using this
        rw [hyl] at hri
        have hcond2 := hcond (by first | trivial | rfl)
        rw [hyl] at hcond2
        have hj1 := hri.j
        have c15 := obj_cell hri.r15 0
        have c16 := obj_cell hri.r16 0
        have c13 := obj_cell hj1.b13 0
        have c5 := obj_cell hj1.b3.h1 0
        have dl : (l.length != l.length) = false := by simp
        by_cases hm1 : 1 < m
        · have hm2 : ¬ m < (l.length : Int) := by omega
          gi_wp2_with fail
          clear hri hcond hcond2 c15 c16 c13 c5 hS hord2 hyl
          have hD1lt := obj_lt hD1
          have hsz1 := hj1.size
          rw [roundsIn_succ]
          gi_wp2_with fail
          have hno2 : Kept No W1 ((W1.alloc (.cells #[.int .i64 1] 3)).alloc (.cells #[.int .i64 0] 3)) := ((Kept.refl No W1).alloc _).alloc _
          obtain ⟨w14, hw14⟩ : ∃ w14, (W1.alloc (.cells #[.int .i64 1] 3)).alloc (.cells #[.int .i64 0] 3) = w14 := ⟨_, rfl⟩
          have hr152 : w14.heap[W1.heap.size]? = some (.cells #[.int .i64 1] 3 (0, 0)) := by rw [← hw14]; exact obj_alloc (heap_alloc_new W1 _) _
          have hr162 : w14.heap[W1.heap.size + 1]? = some (.cells #[.int .i64 0] 3 (0, 0)) := by rw [← hw14]; exact World.alloc_at (by simp) _
          have hs14 : w14.heap.size = W1.heap.size + 2 := by rw [← hw14]; simp
          rw [hw14] at hno2 ⊢
          obtain ⟨N1, hN1⟩ : ∃ N1, W1.heap.size = N1 := ⟨_, rfl⟩
          have hJ14 := hj1.new (hno2.any (T := fun i => N0 ≤ i))
          have hD2 := hno2.obj hD1 (not_no _)
          rw [hN1] at hr152 hr162 hs14 hsz1 hD1lt ⊢
          clear hw14 hno2 hj1 hD1
          refine wpIn_rangeFunc_ownF (w0 := w14) rfl (by decide) (gf := 37) (lb := #[.pointer (some ⟨bx, 0, none⟩)]) rfl trivial (enters_of Tryd.func37 (by kernel_rfl) rfl)
            (values_order (fun i => i = tb5 ∨ N0 ≤ i) l.length bx vx l 8 (by decide) (by have := HLEN.out; omega) rfl (by omega) w14 (fun i hi => .inr (by omega)) hJ14.cx (hJ14.rx.mono (fun i _ e => by omega)))
            (fun h k => h.and k) (fun W lb o o' hl hh ho hw => (Kept.refl _ W).grown (grownBy_putObj' W lb o') (fun k e _ => by cases e; exact .inr (by omega))) (Below.refl _ _) (fun _ => rfl)
            (LI (JT w b5 tb5 n B7 B13 bx N0 m l (.slice ad9 l.length cap9) vx) 1 m N1 (N1 + 1) (some D1)) (LX (JT w b5 tb5 n B7 B13 bx N0 m l (.slice ad9 l.length cap9) vx) 1 m N1 (N1 + 1) (some D1))
            (li_own (jt_abides (by omega)) _ _ _ _ _ (fun k e => by cases e; omega)) (fun c => lx_own (jt_abides (by omega)) _ _ _ _ _ (fun k e => by cases e; omega) c)
            ⟨inOrder_nil, (fun h => by cases h), ⟨hJ14, hr152, hr162, fun k e => by cases e; exact hD2⟩⟩ ?a1z1 ?assignz1 ?bodyz1 ?donez1 ?stopz1
          case assignz1 =>
            intro l x W K hK
            gi_wp2
            exact hK
          case bodyz1 =>
            rintro lp pre y W ⟨hord2, hcond, hri⟩ hlen
            obtain ⟨y, hyl⟩ := y
            have hj := hri.j
            obtain ⟨g, off, cap', hv, g1⟩ := hj.at hlen
            cases hv
            have hordj := hj.ord
            have hsizej := hj.size
            have c16 := obj_cell hri.r16 0
            have f16 := obj_free hri.r16 0
            have c13 := obj_cell hj.b13 0
            have c7 := obj_cell hj.b7 0
            have c6 := obj_cell hj.b3.h2 0
            have f6 := obj_free hj.b3.h2 0
            obtain ⟨k, hk⟩ : ∃ k, pre.length = k := ⟨_, rfl⟩
            rw [hk] at c16 g1 hlen
            have d1 : decide (l.length ≤ k) = false := by simp; exact hlen
            have hk200 : (k : Int) ≤ 200 := by have := HLEN.out; omega
            have hkl : (k : Int) < (l.length : Int) := by omega
            have hll : (l.length : Int) ≤ 200 := by have := HLEN.out; omega
            have hk0 : (0 : Int) ≤ (k : Int) := by omega
            have hkS : Kept (fun i => i = (N1 + 1)) W (W.setCell ⟨(N1 + 1), 0, none⟩ (.int .i64 ((k : Int) + 1))) := (Kept.refl (fun i => i = (N1 + 1)) W).setCell (p := ⟨(N1 + 1), 0, none⟩) (fun _ => rfl) _
            have HRI := Lib.hid hri
            have HK := Lib.hid hk
            have HORD := Lib.hid hord2
            have HCO := Lib.hid hcond
            have HLE := Lib.hid hlen
            dsimp only
            by_cases hy : y = k
            · subst hy
              obtain ⟨z, hz⟩ : ∃ z : Int, ((l.getD y 0 : Nat) : Int) = z := ⟨_, rfl⟩
              rw [hz] at g1
              have hz' := hz
              rw [List.getD_eq_getElem?_getD] at hz'
              rw [hz']
              have dz : (z != z) = false := by simp
              have hj1 := hj.new (hkS.mono (T := fun i => N0 ≤ i) (fun i _ e => by have : i = (N1 + 1) := e; omega))
              have c71 := obj_cell hj1.b7 0
              obtain ⟨t1, hs1⟩ := hj1.st
              have r151 := hkS.obj hri.r15 (by omega)
              have r161 : (W.setCell ⟨(N1 + 1), 0, none⟩ (.int .i64 ((y : Int) + 1))).heap[(N1 + 1)]? = _ := obj_store hri.r16 0 _
              have HJ1 := Lib.hid hj1
              have HS1 := Lib.hid hs1
              have HR1 := Lib.hid (And.intro r151 r161)
              have HKS := Lib.hid hkS
              clear hri hj hj1 hs1 r151 r161 hkS hz hz' hk hord2 hcond hlen c7
              gi_wp2_with fail
              refine ⟨trivial, ?_⟩
              refine (CallsIn.inRound lp (callsIn_wide.2 (st_free HS1.out z))).mono ?_
              rintro e W2 ⟨rfl, hs2, hk2⟩
              have hj2 := HJ1.out.bk hs2 hk2
              have r152 := hk2.obj HR1.out.1 (show ¬ N1 = tb5 by omega)
              have r162 := hk2.obj HR1.out.2 (show ¬ (N1 + 1) = tb5 by omega)
              have c72 := obj_cell hj2.b7 0
              have c32 := obj_cell hj2.b3.h0 0
              have HS2 := Lib.hid hs2
              have HJ2 := Lib.hid hj2
              have HR2 := Lib.hid (And.intro r152 r162)
              have HK2 := Lib.hid hk2
              clear hs2 hk2 hj2 r152 r162 c71 c16 f16 c13
              gi_wp2_with fail
              refine ⟨trivial, ?_⟩
              refine (CallsIn.inRound lp (callsIn_wide.2 (st_claim HS2.out (n : Nat)))).mono ?_
              rintro e W3 ⟨rfl, hs3, hk3⟩
              have hj3 := HJ2.out.bk hs3 hk3
              have r153 := hk3.obj HR2.out.1 (show ¬ N1 = tb5 by omega)
              have r163 := hk3.obj HR2.out.2 (show ¬ (N1 + 1) = tb5 by omega)
              have c15 := obj_cell r153 0
              have c16 := obj_cell r163 0
              have c53 := obj_cell hj3.b3.h1 0
              have HJ3 := Lib.hid hj3
              have HR3 := Lib.hid (And.intro r153 r163)
              have HK3 := Lib.hid hk3
              clear hs3 hk3 hj3 r153 r163 c72 c32
              gi_wp2_with fail
              have hko := (keepsOthers_of HKS.out (fun k o e h => by cases e; rw [HRI.out.r16] at h; cases h; rfl)).trans ((keepsOthers_of HK2.out (fun k o e h => by cases e; obtain ⟨cs, h6, _⟩ := HS1.out.ids.ws; rw [h6] at h; cases h; rfl)).trans (keepsOthers_of HK3.out (fun k o e h => by cases e; obtain ⟨cs, h6, _⟩ := HS2.out.ids.ws; rw [h6] at h; cases h; rfl)))
              exact ⟨hko, (HKS.out.mono (T := fun i => i = tb5 ∨ N0 ≤ i) (fun i _ e => .inr (by have : i = (N1 + 1) := e; omega))).and ((HK2.out.mono (fun i _ e => .inl e)).and (HK3.out.mono (fun i _ e => .inl e))), HORD.out.snoc HK.out.symm, (fun h => by cases h), ⟨HJ3.out, HR3.out.1, by rw [List.length_append, HK.out]; exact HR3.out.2, fun k e => by cases e; exact hko.same D1 _ (HRI.out.d D1 rfl) rfl⟩⟩
            · obtain ⟨z, hz⟩ : ∃ z : Int, ((l.getD k 0 : Nat) : Int) = z := ⟨_, rfl⟩
              obtain ⟨z2, hz2⟩ : ∃ z2 : Int, ((l.getD y 0 : Nat) : Int) = z2 := ⟨_, rfl⟩
              have dz : (z2 != z) = true := by
                rw [bne_iff_ne]
                intro e
                exact hy (HINJ.out y k hyl HLE.out (by omega))
              rw [hz] at g1
              have hz' := hz2
              rw [List.getD_eq_getElem?_getD] at hz'
              rw [hz']
              have HY := Lib.hid hy
              have HB2 := Lib.hid hj.b3.h2
              clear hri hj hkS hz hz' hz2 hk hord2 hcond hlen hy
              gi_wp2_with fail
              exact ⟨(keepsOthers_of ((Kept.refl (fun i => i = w.heap.size + 2) W).setCell (p := ⟨w.heap.size + 2, 0, none⟩) (fun _ => rfl) _) (fun k o e h => by cases e; rw [HB2.out] at h; cases h; rfl)), .inl ⟨rfl, fun h => HY.out (h.last.trans HK.out)⟩⟩
          case donez1 =>
            rintro D2 ys2 W2 hDl2 hS2 ⟨hord3, hcond3, hri2⟩ hK2
            have hyl2 : ys2.length = l.length := by have := congrArg List.length hS2; simpa using this
            rw [hyl2] at hri2
            have hj2 := hri2.j
            have c15 := obj_cell hri2.r15 0
            have c16 := obj_cell hri2.r16 0
            have c13 := obj_cell hj2.b13 0
            have dl : (l.length != l.length) = false := by simp
            gi_wp2_with fail
            rw [roundsIn_succ]
            gi_wp2_with fail
            refine ⟨trivial, ?_⟩
            obtain ⟨t9, hs9⟩ := hj2.st
            have hkw : Kept No W2 (W2.alloc (.cells #[.int .i64 2] 3)) := (Kept.refl No W2).alloc _
            refine (callsIn_wide.2 (known_any _ ((hs9.laid HL.out).kept hkw (not_no _)))).mono ?_
            rintro e W5 ⟨rfl, hk5⟩
            have hk25 : Kept No W2 W5 := hkw.and hk5
            have hb5 := hj2.b3.kept hk25 ⟨not_no _, not_no _, not_no _⟩
            have c6 := obj_cell hb5.h2 0
            have f6 := obj_free hb5.h2 0
            gi_wp2_with fail
            have hset : Kept (fun i => i = w.heap.size + 2) W5 (W5.setCell ⟨w.heap.size + 2, 0, none⟩ (.bool true)) := (Kept.refl (fun i => i = w.heap.size + 2) W5).setCell (p := ⟨w.heap.size + 2, 0, none⟩) (fun _ => rfl) _
            have hkk := hset
            have hd2 := hset.obj (hk25.obj hK2 (not_no _)) (by omega)
            have hd1 := hset.obj (hk25.obj (hri2.d D1 rfl) (not_no _)) (by omega)
            refine ⟨by simp, .inl ⟨_, _, rfl, run_takeDeferred hd2, ?_⟩⟩
            have hd1' : ((W5.setCell ⟨w.heap.size + 2, 0, none⟩ (.bool true)).putObj D2 (.deferred none)).heap[D1]? = some (.deferred (some [])) := by
              rw [(grownBy_putObj' _ D2 (.deferred none)).block D1 (obj_lt hd1) (fun e => by cases e; omega)]
              exact hd1
            refine ⟨by simp, .inl ⟨_, _, rfl, run_takeDeferred hd1', ?_⟩⟩
            have hk6 : Kept (fun i => i = D2) (W5.setCell ⟨w.heap.size + 2, 0, none⟩ (.bool true)) ((W5.setCell ⟨w.heap.size + 2, 0, none⟩ (.bool true)).putObj D2 (.deferred none)) := (Kept.refl _ _).grown (grownBy_putObj' _ D2 _) (fun k e _ => by cases e; rfl)
            have hk7 : Kept (fun i => i = D1) ((W5.setCell ⟨w.heap.size + 2, 0, none⟩ (.bool true)).putObj D2 (.deferred none)) (((W5.setCell ⟨w.heap.size + 2, 0, none⟩ (.bool true)).putObj D2 (.deferred none)).putObj D1 (.deferred none)) := (Kept.refl _ _).grown (grownBy_putObj' _ D1 _) (fun k e _ => by cases e; rfl)
            have hc6 := obj_cell (hk7.obj (hk6.obj (hb5.set true).h2 (by omega)) (by omega)) 0
            refine ⟨_, results6 rfl true hc6, rfl, ?_⟩
            exact ((((hs9.kept.and hk25).new hset (fun i e => by have : i = w.heap.size + 2 := e; omega)).new hk6 (fun i e => by have : i = D2 := e; omega)).new hk7 (fun i e => by have : i = D1 := e; omega))
          case stopz1 =>
            rintro D2 c pre W2 _ hSp (⟨rfl, h⟩ | ⟨_, h, _⟩) _
            · exact absurd hSp h
            · exact absurd h (by decide)
        · have hm2 : ¬ (1 : Int) < (l.length : Int) := by omega
          gi_wp2_with fail
          clear hri hcond hcond2 c15 c16 c13 c5 hS hord2 hyl
          have hD1lt := obj_lt hD1
          have hsz1 := hj1.size
          rw [roundsIn_succ]
          gi_wp2_with fail
          have hno2 : Kept No W1 ((W1.alloc (.cells #[.int .i64 1] 3)).alloc (.cells #[.int .i64 0] 3)) := ((Kept.refl No W1).alloc _).alloc _
          obtain ⟨w14, hw14⟩ : ∃ w14, (W1.alloc (.cells #[.int .i64 1] 3)).alloc (.cells #[.int .i64 0] 3) = w14 := ⟨_, rfl⟩
          have hr152 : w14.heap[W1.heap.size]? = some (.cells #[.int .i64 1] 3 (0, 0)) := by rw [← hw14]; exact obj_alloc (heap_alloc_new W1 _) _
          have hr162 : w14.heap[W1.heap.size + 1]? = some (.cells #[.int .i64 0] 3 (0, 0)) := by rw [← hw14]; exact World.alloc_at (by simp) _
          have hs14 : w14.heap.size = W1.heap.size + 2 := by rw [← hw14]; simp
          rw [hw14] at hno2 ⊢
          obtain ⟨N1, hN1⟩ : ∃ N1, W1.heap.size = N1 := ⟨_, rfl⟩
          have hJ14 := hj1.new (hno2.any (T := fun i => N0 ≤ i))
          have hD2 := hno2.obj hD1 (not_no _)
          rw [hN1] at hr152 hr162 hs14 hsz1 hD1lt ⊢
          clear hw14 hno2 hj1 hD1
          refine wpIn_rangeFunc_ownF (w0 := w14) rfl (by decide) (gf := 37) (lb := #[.pointer (some ⟨bx, 0, none⟩)]) rfl trivial (enters_of Tryd.func37 (by kernel_rfl) rfl)
            (values_order (fun i => i = tb5 ∨ N0 ≤ i) l.length bx vx l 8 (by decide) (by have := HLEN.out; omega) rfl (by omega) w14 (fun i hi => .inr (by omega)) hJ14.cx (hJ14.rx.mono (fun i _ e => by omega)))
            (fun h k => h.and k) (fun W lb o o' hl hh ho hw => (Kept.refl _ W).grown (grownBy_putObj' W lb o') (fun k e _ => by cases e; exact .inr (by omega))) (Below.refl _ _) (fun _ => rfl)
            (LI (JT w b5 tb5 n B7 B13 bx N0 m l (.slice ad9 l.length cap9) vx) 1 m N1 (N1 + 1) (some D1)) (LX (JT w b5 tb5 n B7 B13 bx N0 m l (.slice ad9 l.length cap9) vx) 1 m N1 (N1 + 1) (some D1))
            (li_own (jt_abides (by omega)) _ _ _ _ _ (fun k e => by cases e; omega)) (fun c => lx_own (jt_abides (by omega)) _ _ _ _ _ (fun k e => by cases e; omega) c)
            ⟨inOrder_nil, (fun h => by cases h), ⟨hJ14, hr152, hr162, fun k e => by cases e; exact hD2⟩⟩ ?a1z2 ?assignz2 ?bodyz2 ?donez2 ?stopz2
          case assignz2 =>
            intro l x W K hK
            gi_wp2
            exact hK
          case bodyz2 =>
            rintro lp pre y W ⟨hord2, hcond, hri⟩ hlen
            obtain ⟨y, hyl⟩ := y
            have hj := hri.j
            obtain ⟨g, off, cap', hv, g1⟩ := hj.at hlen
            cases hv
            have hordj := hj.ord
            have hsizej := hj.size
            have c16 := obj_cell hri.r16 0
            have f16 := obj_free hri.r16 0
            have c13 := obj_cell hj.b13 0
            have c7 := obj_cell hj.b7 0
            have c6 := obj_cell hj.b3.h2 0
            have f6 := obj_free hj.b3.h2 0
            obtain ⟨k, hk⟩ : ∃ k, pre.length = k := ⟨_, rfl⟩
            rw [hk] at c16 g1 hlen
            have d1 : decide (l.length ≤ k) = false := by simp; exact hlen
            have hk200 : (k : Int) ≤ 200 := by have := HLEN.out; omega
            have hkl : (k : Int) < (l.length : Int) := by omega
            have hll : (l.length : Int) ≤ 200 := by have := HLEN.out; omega
            have hk0 : (0 : Int) ≤ (k : Int) := by omega
            have hkS : Kept (fun i => i = (N1 + 1)) W (W.setCell ⟨(N1 + 1), 0, none⟩ (.int .i64 ((k : Int) + 1))) := (Kept.refl (fun i => i = (N1 + 1)) W).setCell (p := ⟨(N1 + 1), 0, none⟩) (fun _ => rfl) _
            have HRI := Lib.hid hri
            have HK := Lib.hid hk
            have HORD := Lib.hid hord2
            have HCO := Lib.hid hcond
            have HLE := Lib.hid hlen
            dsimp only
            by_cases hy : y = k
            · subst hy
              obtain ⟨z, hz⟩ : ∃ z : Int, ((l.getD y 0 : Nat) : Int) = z := ⟨_, rfl⟩
              rw [hz] at g1
              have hz' := hz
              rw [List.getD_eq_getElem?_getD] at hz'
              rw [hz']
              have dz : (z != z) = false := by simp
              have hj1 := hj.new (hkS.mono (T := fun i => N0 ≤ i) (fun i _ e => by have : i = (N1 + 1) := e; omega))
              have c71 := obj_cell hj1.b7 0
              obtain ⟨t1, hs1⟩ := hj1.st
              have r151 := hkS.obj hri.r15 (by omega)
              have r161 : (W.setCell ⟨(N1 + 1), 0, none⟩ (.int .i64 ((y : Int) + 1))).heap[(N1 + 1)]? = _ := obj_store hri.r16 0 _
              have HJ1 := Lib.hid hj1
              have HS1 := Lib.hid hs1
              have HR1 := Lib.hid (And.intro r151 r161)
              have HKS := Lib.hid hkS
              clear hri hj hj1 hs1 r151 r161 hkS hz hz' hk hord2 hcond hlen c7
              gi_wp2_with fail
              refine ⟨trivial, ?_⟩
              refine (CallsIn.inRound lp (callsIn_wide.2 (st_free HS1.out z))).mono ?_
              rintro e W2 ⟨rfl, hs2, hk2⟩
              have hj2 := HJ1.out.bk hs2 hk2
              have r152 := hk2.obj HR1.out.1 (show ¬ N1 = tb5 by omega)
              have r162 := hk2.obj HR1.out.2 (show ¬ (N1 + 1) = tb5 by omega)
              have c72 := obj_cell hj2.b7 0
              have c32 := obj_cell hj2.b3.h0 0
              have HS2 := Lib.hid hs2
              have HJ2 := Lib.hid hj2
              have HR2 := Lib.hid (And.intro r152 r162)
              have HK2 := Lib.hid hk2
              clear hs2 hk2 hj2 r152 r162 c71 c16 f16 c13
              gi_wp2_with fail
              refine ⟨trivial, ?_⟩
              refine (CallsIn.inRound lp (callsIn_wide.2 (st_claim HS2.out (n : Nat)))).mono ?_
              rintro e W3 ⟨rfl, hs3, hk3⟩
              have hj3 := HJ2.out.bk hs3 hk3
              have r153 := hk3.obj HR2.out.1 (show ¬ N1 = tb5 by omega)
              have r163 := hk3.obj HR2.out.2 (show ¬ (N1 + 1) = tb5 by omega)
              have c15 := obj_cell r153 0
              have c16 := obj_cell r163 0
              have c53 := obj_cell hj3.b3.h1 0
              have HJ3 := Lib.hid hj3
              have HR3 := Lib.hid (And.intro r153 r163)
              have HK3 := Lib.hid hk3
              clear hs3 hk3 hj3 r153 r163 c72 c32
              gi_wp2_with fail
              have hko := (keepsOthers_of HKS.out (fun k o e h => by cases e; rw [HRI.out.r16] at h; cases h; rfl)).trans ((keepsOthers_of HK2.out (fun k o e h => by cases e; obtain ⟨cs, h6, _⟩ := HS1.out.ids.ws; rw [h6] at h; cases h; rfl)).trans (keepsOthers_of HK3.out (fun k o e h => by cases e; obtain ⟨cs, h6, _⟩ := HS2.out.ids.ws; rw [h6] at h; cases h; rfl)))
              exact ⟨hko, (HKS.out.mono (T := fun i => i = tb5 ∨ N0 ≤ i) (fun i _ e => .inr (by have : i = (N1 + 1) := e; omega))).and ((HK2.out.mono (fun i _ e => .inl e)).and (HK3.out.mono (fun i _ e => .inl e))), HORD.out.snoc HK.out.symm, (fun h => by cases h), ⟨HJ3.out, HR3.out.1, by rw [List.length_append, HK.out]; exact HR3.out.2, fun k e => by cases e; exact hko.same D1 _ (HRI.out.d D1 rfl) rfl⟩⟩
            · obtain ⟨z, hz⟩ : ∃ z : Int, ((l.getD k 0 : Nat) : Int) = z := ⟨_, rfl⟩
              obtain ⟨z2, hz2⟩ : ∃ z2 : Int, ((l.getD y 0 : Nat) : Int) = z2 := ⟨_, rfl⟩
              have dz : (z2 != z) = true := by
                rw [bne_iff_ne]
                intro e
                exact hy (HINJ.out y k hyl HLE.out (by omega))
              rw [hz] at g1
              have hz' := hz2
              rw [List.getD_eq_getElem?_getD] at hz'
              rw [hz']
              have HY := Lib.hid hy
              have HB2 := Lib.hid hj.b3.h2
              clear hri hj hkS hz hz' hz2 hk hord2 hcond hlen hy
              gi_wp2_with fail
              exact ⟨(keepsOthers_of ((Kept.refl (fun i => i = w.heap.size + 2) W).setCell (p := ⟨w.heap.size + 2, 0, none⟩) (fun _ => rfl) _) (fun k o e h => by cases e; rw [HB2.out] at h; cases h; rfl)), .inl ⟨rfl, fun h => HY.out (h.last.trans HK.out)⟩⟩
          case donez2 =>
            rintro D2 ys2 W2 hDl2 hS2 ⟨hord3, hcond3, hri2⟩ hK2
            have hyl2 : ys2.length = l.length := by have := congrArg List.length hS2; simpa using this
            rw [hyl2] at hri2
            have hj2 := hri2.j
            have c15 := obj_cell hri2.r15 0
            have c16 := obj_cell hri2.r16 0
            have c13 := obj_cell hj2.b13 0
            have dl : (l.length != l.length) = false := by simp
            gi_wp2_with fail
            rw [roundsIn_succ]
            gi_wp2_with fail
            refine ⟨trivial, ?_⟩
            obtain ⟨t9, hs9⟩ := hj2.st
            have hkw : Kept No W2 (W2.alloc (.cells #[.int .i64 2] 3)) := (Kept.refl No W2).alloc _
            refine (callsIn_wide.2 (known_any _ ((hs9.laid HL.out).kept hkw (not_no _)))).mono ?_
            rintro e W5 ⟨rfl, hk5⟩
            have hk25 : Kept No W2 W5 := hkw.and hk5
            have hb5 := hj2.b3.kept hk25 ⟨not_no _, not_no _, not_no _⟩
            have c6 := obj_cell hb5.h2 0
            have f6 := obj_free hb5.h2 0
            gi_wp2_with fail
            have hset : Kept (fun i => i = w.heap.size + 2) W5 (W5.setCell ⟨w.heap.size + 2, 0, none⟩ (.bool true)) := (Kept.refl (fun i => i = w.heap.size + 2) W5).setCell (p := ⟨w.heap.size + 2, 0, none⟩) (fun _ => rfl) _
            have hkk := hset
            have hd2 := hset.obj (hk25.obj hK2 (not_no _)) (by omega)
            have hd1 := hset.obj (hk25.obj (hri2.d D1 rfl) (not_no _)) (by omega)
            refine ⟨by simp, .inl ⟨_, _, rfl, run_takeDeferred hd2, ?_⟩⟩
            have hd1' : ((W5.setCell ⟨w.heap.size + 2, 0, none⟩ (.bool true)).putObj D2 (.deferred none)).heap[D1]? = some (.deferred (some [])) := by
              rw [(grownBy_putObj' _ D2 (.deferred none)).block D1 (obj_lt hd1) (fun e => by cases e; omega)]
              exact hd1
            refine ⟨by simp, .inl ⟨_, _, rfl, run_takeDeferred hd1', ?_⟩⟩
            have hk6 : Kept (fun i => i = D2) (W5.setCell ⟨w.heap.size + 2, 0, none⟩ (.bool true)) ((W5.setCell ⟨w.heap.size + 2, 0, none⟩ (.bool true)).putObj D2 (.deferred none)) := (Kept.refl _ _).grown (grownBy_putObj' _ D2 _) (fun k e _ => by cases e; rfl)
            have hk7 : Kept (fun i => i = D1) ((W5.setCell ⟨w.heap.size + 2, 0, none⟩ (.bool true)).putObj D2 (.deferred none)) (((W5.setCell ⟨w.heap.size + 2, 0, none⟩ (.bool true)).putObj D2 (.deferred none)).putObj D1 (.deferred none)) := (Kept.refl _ _).grown (grownBy_putObj' _ D1 _) (fun k e _ => by cases e; rfl)
            have hc6 := obj_cell (hk7.obj (hk6.obj (hb5.set true).h2 (by omega)) (by omega)) 0
            refine ⟨_, results6 rfl true hc6, rfl, ?_⟩
            exact ((((hs9.kept.and hk25).new hset (fun i e => by have : i = w.heap.size + 2 := e; omega)).new hk6 (fun i e => by have : i = D2 := e; omega)).new hk7 (fun i e => by have : i = D1 := e; omega))
          case stopz2 =>
            rintro D2 c pre W2 _ hSp (⟨rfl, h⟩ | ⟨_, h, _⟩) _
            · exact absurd hSp h
            · exact absurd h (by decide)
      case stop =>
        rintro D1 c pre W1 hDl hSp (⟨rfl, h⟩ | ⟨rfl, _, q1, q2, q3, q4, hri⟩) hD1
        · exact absurd hSp h
        · have hj1 := hri.j
          obtain ⟨pz, hpz⟩ : ∃ pz : Int, ((pre.length : Nat) : Int) = pz := ⟨_, rfl⟩
          have c15 := obj_cell hri.r15 0
          have c16 := obj_cell hri.r16 0
          have c13 := obj_cell hj1.b13 0
          have c5 := obj_cell hj1.b3.h1 0
          rw [hpz] at c16
          by_cases hm1 : 1 < m
          · have hpm : m = pz := by omega
            have hq3 : m ≤ (l.length : Int) := by omega
            clear hpz q1 q2 q3 q4 hri hSp
            subst hpm
            by_cases hm2 : m < (l.length : Int)
            · have e1 : (m != m) = false := by simp
              gi_wp2_with fail
              clear c15 c16 c13 c5
              have hD1lt := obj_lt hD1
              have hsz1 := hj1.size
              rw [roundsIn_succ]
              gi_wp2_with fail
              have hno2 : Kept No W1 ((W1.alloc (.cells #[.int .i64 1] 3)).alloc (.cells #[.int .i64 0] 3)) := ((Kept.refl No W1).alloc _).alloc _
              obtain ⟨w14, hw14⟩ : ∃ w14, (W1.alloc (.cells #[.int .i64 1] 3)).alloc (.cells #[.int .i64 0] 3) = w14 := ⟨_, rfl⟩
              have hr152 : w14.heap[W1.heap.size]? = some (.cells #[.int .i64 1] 3 (0, 0)) := by rw [← hw14]; exact obj_alloc (heap_alloc_new W1 _) _
              have hr162 : w14.heap[W1.heap.size + 1]? = some (.cells #[.int .i64 0] 3 (0, 0)) := by rw [← hw14]; exact World.alloc_at (by simp) _
              have hs14 : w14.heap.size = W1.heap.size + 2 := by rw [← hw14]; simp
              rw [hw14] at hno2 ⊢
              obtain ⟨N1, hN1⟩ : ∃ N1, W1.heap.size = N1 := ⟨_, rfl⟩
              have hJ14 := hj1.new (hno2.any (T := fun i => N0 ≤ i))
              have hD2 := hno2.obj hD1 (not_no _)
              rw [hN1] at hr152 hr162 hs14 hsz1 hD1lt ⊢
              clear hw14 hno2 hj1 hD1
              refine wpIn_rangeFunc_ownF (w0 := w14) rfl (by decide) (gf := 37) (lb := #[.pointer (some ⟨bx, 0, none⟩)]) rfl trivial (enters_of Tryd.func37 (by kernel_rfl) rfl)
                (values_order (fun i => i = tb5 ∨ N0 ≤ i) l.length bx vx l 8 (by decide) (by have := HLEN.out; omega) rfl (by omega) w14 (fun i hi => .inr (by omega)) hJ14.cx (hJ14.rx.mono (fun i _ e => by omega)))
                (fun h k => h.and k) (fun W lb o o' hl hh ho hw => (Kept.refl _ W).grown (grownBy_putObj' W lb o') (fun k e _ => by cases e; exact .inr (by omega))) (Below.refl _ _) (fun _ => rfl)
                (LI (JT w b5 tb5 n B7 B13 bx N0 m l (.slice ad9 l.length cap9) vx) 1 m N1 (N1 + 1) (some D1)) (LX (JT w b5 tb5 n B7 B13 bx N0 m l (.slice ad9 l.length cap9) vx) 1 m N1 (N1 + 1) (some D1))
                (li_own (jt_abides (by omega)) _ _ _ _ _ (fun k e => by cases e; omega)) (fun c => lx_own (jt_abides (by omega)) _ _ _ _ _ (fun k e => by cases e; omega) c)
                ⟨inOrder_nil, (fun h => by cases h), ⟨hJ14, hr152, hr162, fun k e => by cases e; exact hD2⟩⟩ ?a1z3 ?assignz3 ?bodyz3 ?donez3 ?stopz3
              case assignz3 =>
                intro l x W K hK
                gi_wp2
                exact hK
              case bodyz3 =>
                rintro lp pre y W ⟨hord2, hcond, hri⟩ hlen
                obtain ⟨y, hyl⟩ := y
                have hj := hri.j
                obtain ⟨g, off, cap', hv, g1⟩ := hj.at hlen
                cases hv
                have hordj := hj.ord
                have hsizej := hj.size
                have c16 := obj_cell hri.r16 0
                have f16 := obj_free hri.r16 0
                have c13 := obj_cell hj.b13 0
                have c7 := obj_cell hj.b7 0
                have c6 := obj_cell hj.b3.h2 0
                have f6 := obj_free hj.b3.h2 0
                obtain ⟨k, hk⟩ : ∃ k, pre.length = k := ⟨_, rfl⟩
                rw [hk] at c16 g1 hlen
                have d1 : decide (l.length ≤ k) = false := by simp; exact hlen
                have hk200 : (k : Int) ≤ 200 := by have := HLEN.out; omega
                have hkl : (k : Int) < (l.length : Int) := by omega
                have hll : (l.length : Int) ≤ 200 := by have := HLEN.out; omega
                have hk0 : (0 : Int) ≤ (k : Int) := by omega
                have hkS : Kept (fun i => i = (N1 + 1)) W (W.setCell ⟨(N1 + 1), 0, none⟩ (.int .i64 ((k : Int) + 1))) := (Kept.refl (fun i => i = (N1 + 1)) W).setCell (p := ⟨(N1 + 1), 0, none⟩) (fun _ => rfl) _
                have HRI := Lib.hid hri
                have HK := Lib.hid hk
                have HORD := Lib.hid hord2
                have HCO := Lib.hid hcond
                have HLE := Lib.hid hlen
                dsimp only
                by_cases hy : y = k
                · subst hy
                  obtain ⟨z, hz⟩ : ∃ z : Int, ((l.getD y 0 : Nat) : Int) = z := ⟨_, rfl⟩
                  rw [hz] at g1
                  have hz' := hz
                  rw [List.getD_eq_getElem?_getD] at hz'
                  rw [hz']
                  have dz : (z != z) = false := by simp
                  have hj1 := hj.new (hkS.mono (T := fun i => N0 ≤ i) (fun i _ e => by have : i = (N1 + 1) := e; omega))
                  have c71 := obj_cell hj1.b7 0
                  obtain ⟨t1, hs1⟩ := hj1.st
                  have r151 := hkS.obj hri.r15 (by omega)
                  have r161 : (W.setCell ⟨(N1 + 1), 0, none⟩ (.int .i64 ((y : Int) + 1))).heap[(N1 + 1)]? = _ := obj_store hri.r16 0 _
                  have HJ1 := Lib.hid hj1
                  have HS1 := Lib.hid hs1
                  have HR1 := Lib.hid (And.intro r151 r161)
                  have HKS := Lib.hid hkS
                  clear hri hj hj1 hs1 r151 r161 hkS hz hz' hk hord2 hcond hlen c7
                  gi_wp2_with fail
                  refine ⟨trivial, ?_⟩
                  refine (CallsIn.inRound lp (callsIn_wide.2 (st_free HS1.out z))).mono ?_
                  rintro e W2 ⟨rfl, hs2, hk2⟩
                  have hj2 := HJ1.out.bk hs2 hk2
                  have r152 := hk2.obj HR1.out.1 (show ¬ N1 = tb5 by omega)
                  have r162 := hk2.obj HR1.out.2 (show ¬ (N1 + 1) = tb5 by omega)
                  have c72 := obj_cell hj2.b7 0
                  have c32 := obj_cell hj2.b3.h0 0
                  have HS2 := Lib.hid hs2
                  have HJ2 := Lib.hid hj2
                  have HR2 := Lib.hid (And.intro r152 r162)
                  have HK2 := Lib.hid hk2
                  clear hs2 hk2 hj2 r152 r162 c71 c16 f16 c13
                  gi_wp2_with fail
                  refine ⟨trivial, ?_⟩
                  refine (CallsIn.inRound lp (callsIn_wide.2 (st_claim HS2.out (n : Nat)))).mono ?_
                  rintro e W3 ⟨rfl, hs3, hk3⟩
                  have hj3 := HJ2.out.bk hs3 hk3
                  have r153 := hk3.obj HR2.out.1 (show ¬ N1 = tb5 by omega)
                  have r163 := hk3.obj HR2.out.2 (show ¬ (N1 + 1) = tb5 by omega)
                  have c15 := obj_cell r153 0
                  have c16 := obj_cell r163 0
                  have c53 := obj_cell hj3.b3.h1 0
                  have HJ3 := Lib.hid hj3
                  have HR3 := Lib.hid (And.intro r153 r163)
                  have HK3 := Lib.hid hk3
                  clear hs3 hk3 hj3 r153 r163 c72 c32
                  gi_wp2_with fail
                  have hko := (keepsOthers_of HKS.out (fun k o e h => by cases e; rw [HRI.out.r16] at h; cases h; rfl)).trans ((keepsOthers_of HK2.out (fun k o e h => by cases e; obtain ⟨cs, h6, _⟩ := HS1.out.ids.ws; rw [h6] at h; cases h; rfl)).trans (keepsOthers_of HK3.out (fun k o e h => by cases e; obtain ⟨cs, h6, _⟩ := HS2.out.ids.ws; rw [h6] at h; cases h; rfl)))
                  exact ⟨hko, (HKS.out.mono (T := fun i => i = tb5 ∨ N0 ≤ i) (fun i _ e => .inr (by have : i = (N1 + 1) := e; omega))).and ((HK2.out.mono (fun i _ e => .inl e)).and (HK3.out.mono (fun i _ e => .inl e))), HORD.out.snoc HK.out.symm, (fun h => by cases h), ⟨HJ3.out, HR3.out.1, by rw [List.length_append, HK.out]; exact HR3.out.2, fun k e => by cases e; exact hko.same D1 _ (HRI.out.d D1 rfl) rfl⟩⟩
                · obtain ⟨z, hz⟩ : ∃ z : Int, ((l.getD k 0 : Nat) : Int) = z := ⟨_, rfl⟩
                  obtain ⟨z2, hz2⟩ : ∃ z2 : Int, ((l.getD y 0 : Nat) : Int) = z2 := ⟨_, rfl⟩
                  have dz : (z2 != z) = true := by
                    rw [bne_iff_ne]
                    intro e
                    exact hy (HINJ.out y k hyl HLE.out (by omega))
                  rw [hz] at g1
                  have hz' := hz2
                  rw [List.getD_eq_getElem?_getD] at hz'
                  rw [hz']
                  have HY := Lib.hid hy
                  have HB2 := Lib.hid hj.b3.h2
                  clear hri hj hkS hz hz' hz2 hk hord2 hcond hlen hy
                  gi_wp2_with fail
                  exact ⟨(keepsOthers_of ((Kept.refl (fun i => i = w.heap.size + 2) W).setCell (p := ⟨w.heap.size + 2, 0, none⟩) (fun _ => rfl) _) (fun k o e h => by cases e; rw [HB2.out] at h; cases h; rfl)), .inl ⟨rfl, fun h => HY.out (h.last.trans HK.out)⟩⟩
              case donez3 =>
                rintro D2 ys2 W2 hDl2 hS2 ⟨hord3, hcond3, hri2⟩ hK2
                have hyl2 : ys2.length = l.length := by have := congrArg List.length hS2; simpa using this
                rw [hyl2] at hri2
                have hj2 := hri2.j
                have c15 := obj_cell hri2.r15 0
                have c16 := obj_cell hri2.r16 0
                have c13 := obj_cell hj2.b13 0
                have dl : (l.length != l.length) = false := by simp
                gi_wp2_with fail
                rw [roundsIn_succ]
                gi_wp2_with fail
                refine ⟨trivial, ?_⟩
                obtain ⟨t9, hs9⟩ := hj2.st
                have hkw : Kept No W2 (W2.alloc (.cells #[.int .i64 2] 3)) := (Kept.refl No W2).alloc _
                refine (callsIn_wide.2 (known_any _ ((hs9.laid HL.out).kept hkw (not_no _)))).mono ?_
                rintro e W5 ⟨rfl, hk5⟩
                have hk25 : Kept No W2 W5 := hkw.and hk5
                have hb5 := hj2.b3.kept hk25 ⟨not_no _, not_no _, not_no _⟩
                have c6 := obj_cell hb5.h2 0
                have f6 := obj_free hb5.h2 0
                gi_wp2_with fail
                have hset : Kept (fun i => i = w.heap.size + 2) W5 (W5.setCell ⟨w.heap.size + 2, 0, none⟩ (.bool true)) := (Kept.refl (fun i => i = w.heap.size + 2) W5).setCell (p := ⟨w.heap.size + 2, 0, none⟩) (fun _ => rfl) _
                have hkk := hset
                have hd2 := hset.obj (hk25.obj hK2 (not_no _)) (by omega)
                have hd1 := hset.obj (hk25.obj (hri2.d D1 rfl) (not_no _)) (by omega)
                refine ⟨by simp, .inl ⟨_, _, rfl, run_takeDeferred hd2, ?_⟩⟩
                have hd1' : ((W5.setCell ⟨w.heap.size + 2, 0, none⟩ (.bool true)).putObj D2 (.deferred none)).heap[D1]? = some (.deferred (some [])) := by
                  rw [(grownBy_putObj' _ D2 (.deferred none)).block D1 (obj_lt hd1) (fun e => by cases e; omega)]
                  exact hd1
                refine ⟨by simp, .inl ⟨_, _, rfl, run_takeDeferred hd1', ?_⟩⟩
                have hk6 : Kept (fun i => i = D2) (W5.setCell ⟨w.heap.size + 2, 0, none⟩ (.bool true)) ((W5.setCell ⟨w.heap.size + 2, 0, none⟩ (.bool true)).putObj D2 (.deferred none)) := (Kept.refl _ _).grown (grownBy_putObj' _ D2 _) (fun k e _ => by cases e; rfl)
                have hk7 : Kept (fun i => i = D1) ((W5.setCell ⟨w.heap.size + 2, 0, none⟩ (.bool true)).putObj D2 (.deferred none)) (((W5.setCell ⟨w.heap.size + 2, 0, none⟩ (.bool true)).putObj D2 (.deferred none)).putObj D1 (.deferred none)) := (Kept.refl _ _).grown (grownBy_putObj' _ D1 _) (fun k e _ => by cases e; rfl)
                have hc6 := obj_cell (hk7.obj (hk6.obj (hb5.set true).h2 (by omega)) (by omega)) 0
                refine ⟨_, results6 rfl true hc6, rfl, ?_⟩
                exact ((((hs9.kept.and hk25).new hset (fun i e => by have : i = w.heap.size + 2 := e; omega)).new hk6 (fun i e => by have : i = D2 := e; omega)).new hk7 (fun i e => by have : i = D1 := e; omega))
              case stopz3 =>
                rintro D2 c pre W2 _ hSp (⟨rfl, h⟩ | ⟨_, h, _⟩) _
                · exact absurd hSp h
                · exact absurd h (by decide)
            · have e1 : (m != (l.length : Int)) = false := by have h9 : m = (l.length : Int) := (by omega); simp [h9]
              gi_wp2_with fail
              clear c15 c16 c13 c5
              have hD1lt := obj_lt hD1
              have hsz1 := hj1.size
              rw [roundsIn_succ]
              gi_wp2_with fail
              have hno2 : Kept No W1 ((W1.alloc (.cells #[.int .i64 1] 3)).alloc (.cells #[.int .i64 0] 3)) := ((Kept.refl No W1).alloc _).alloc _
              obtain ⟨w14, hw14⟩ : ∃ w14, (W1.alloc (.cells #[.int .i64 1] 3)).alloc (.cells #[.int .i64 0] 3) = w14 := ⟨_, rfl⟩
              have hr152 : w14.heap[W1.heap.size]? = some (.cells #[.int .i64 1] 3 (0, 0)) := by rw [← hw14]; exact obj_alloc (heap_alloc_new W1 _) _
              have hr162 : w14.heap[W1.heap.size + 1]? = some (.cells #[.int .i64 0] 3 (0, 0)) := by rw [← hw14]; exact World.alloc_at (by simp) _
              have hs14 : w14.heap.size = W1.heap.size + 2 := by rw [← hw14]; simp
              rw [hw14] at hno2 ⊢
              obtain ⟨N1, hN1⟩ : ∃ N1, W1.heap.size = N1 := ⟨_, rfl⟩
              have hJ14 := hj1.new (hno2.any (T := fun i => N0 ≤ i))
              have hD2 := hno2.obj hD1 (not_no _)
              rw [hN1] at hr152 hr162 hs14 hsz1 hD1lt ⊢
              clear hw14 hno2 hj1 hD1
              refine wpIn_rangeFunc_ownF (w0 := w14) rfl (by decide) (gf := 37) (lb := #[.pointer (some ⟨bx, 0, none⟩)]) rfl trivial (enters_of Tryd.func37 (by kernel_rfl) rfl)
                (values_order (fun i => i = tb5 ∨ N0 ≤ i) l.length bx vx l 8 (by decide) (by have := HLEN.out; omega) rfl (by omega) w14 (fun i hi => .inr (by omega)) hJ14.cx (hJ14.rx.mono (fun i _ e => by omega)))
                (fun h k => h.and k) (fun W lb o o' hl hh ho hw => (Kept.refl _ W).grown (grownBy_putObj' W lb o') (fun k e _ => by cases e; exact .inr (by omega))) (Below.refl _ _) (fun _ => rfl)
                (LI (JT w b5 tb5 n B7 B13 bx N0 m l (.slice ad9 l.length cap9) vx) 1 m N1 (N1 + 1) (some D1)) (LX (JT w b5 tb5 n B7 B13 bx N0 m l (.slice ad9 l.length cap9) vx) 1 m N1 (N1 + 1) (some D1))
                (li_own (jt_abides (by omega)) _ _ _ _ _ (fun k e => by cases e; omega)) (fun c => lx_own (jt_abides (by omega)) _ _ _ _ _ (fun k e => by cases e; omega) c)
                ⟨inOrder_nil, (fun h => by cases h), ⟨hJ14, hr152, hr162, fun k e => by cases e; exact hD2⟩⟩ ?a1z4 ?assignz4 ?bodyz4 ?donez4 ?stopz4
              case assignz4 =>
                intro l x W K hK
                gi_wp2
                exact hK
              case bodyz4 =>
                rintro lp pre y W ⟨hord2, hcond, hri⟩ hlen
                obtain ⟨y, hyl⟩ := y
                have hj := hri.j
                obtain ⟨g, off, cap', hv, g1⟩ := hj.at hlen
                cases hv
                have hordj := hj.ord
                have hsizej := hj.size
                have c16 := obj_cell hri.r16 0
                have f16 := obj_free hri.r16 0
                have c13 := obj_cell hj.b13 0
                have c7 := obj_cell hj.b7 0
                have c6 := obj_cell hj.b3.h2 0
                have f6 := obj_free hj.b3.h2 0
                obtain ⟨k, hk⟩ : ∃ k, pre.length = k := ⟨_, rfl⟩
                rw [hk] at c16 g1 hlen
                have d1 : decide (l.length ≤ k) = false := by simp; exact hlen
                have hk200 : (k : Int) ≤ 200 := by have := HLEN.out; omega
                have hkl : (k : Int) < (l.length : Int) := by omega
                have hll : (l.length : Int) ≤ 200 := by have := HLEN.out; omega
                have hk0 : (0 : Int) ≤ (k : Int) := by omega
                have hkS : Kept (fun i => i = (N1 + 1)) W (W.setCell ⟨(N1 + 1), 0, none⟩ (.int .i64 ((k : Int) + 1))) := (Kept.refl (fun i => i = (N1 + 1)) W).setCell (p := ⟨(N1 + 1), 0, none⟩) (fun _ => rfl) _
                have HRI := Lib.hid hri
                have HK := Lib.hid hk
                have HORD := Lib.hid hord2
                have HCO := Lib.hid hcond
                have HLE := Lib.hid hlen
                dsimp only
                by_cases hy : y = k
                · subst hy
                  obtain ⟨z, hz⟩ : ∃ z : Int, ((l.getD y 0 : Nat) : Int) = z := ⟨_, rfl⟩
                  rw [hz] at g1
                  have hz' := hz
                  rw [List.getD_eq_getElem?_getD] at hz'
                  rw [hz']
                  have dz : (z != z) = false := by simp
                  have hj1 := hj.new (hkS.mono (T := fun i => N0 ≤ i) (fun i _ e => by have : i = (N1 + 1) := e; omega))
                  have c71 := obj_cell hj1.b7 0
                  obtain ⟨t1, hs1⟩ := hj1.st
                  have r151 := hkS.obj hri.r15 (by omega)
                  have r161 : (W.setCell ⟨(N1 + 1), 0, none⟩ (.int .i64 ((y : Int) + 1))).heap[(N1 + 1)]? = _ := obj_store hri.r16 0 _
                  have HJ1 := Lib.hid hj1
                  have HS1 := Lib.hid hs1
                  have HR1 := Lib.hid (And.intro r151 r161)
                  have HKS := Lib.hid hkS
                  clear hri hj hj1 hs1 r151 r161 hkS hz hz' hk hord2 hcond hlen c7
                  gi_wp2_with fail
                  refine ⟨trivial, ?_⟩
                  refine (CallsIn.inRound lp (callsIn_wide.2 (st_free HS1.out z))).mono ?_
                  rintro e W2 ⟨rfl, hs2, hk2⟩
                  have hj2 := HJ1.out.bk hs2 hk2
                  have r152 := hk2.obj HR1.out.1 (show ¬ N1 = tb5 by omega)
                  have r162 := hk2.obj HR1.out.2 (show ¬ (N1 + 1) = tb5 by omega)
                  have c72 := obj_cell hj2.b7 0
                  have c32 := obj_cell hj2.b3.h0 0
                  have HS2 := Lib.hid hs2
                  have HJ2 := Lib.hid hj2
                  have HR2 := Lib.hid (And.intro r152 r162)
                  have HK2 := Lib.hid hk2
                  clear hs2 hk2 hj2 r152 r162 c71 c16 f16 c13
                  gi_wp2_with fail
                  refine ⟨trivial, ?_⟩
                  refine (CallsIn.inRound lp (callsIn_wide.2 (st_claim HS2.out (n : Nat)))).mono ?_
                  rintro e W3 ⟨rfl, hs3, hk3⟩
                  have hj3 := HJ2.out.bk hs3 hk3
                  have r153 := hk3.obj HR2.out.1 (show ¬ N1 = tb5 by omega)
                  have r163 := hk3.obj HR2.out.2 (show ¬ (N1 + 1) = tb5 by omega)
                  have c15 := obj_cell r153 0
                  have c16 := obj_cell r163 0
                  have c53 := obj_cell hj3.b3.h1 0
                  have HJ3 := Lib.hid hj3
                  have HR3 := Lib.hid (And.intro r153 r163)
                  have HK3 := Lib.hid hk3
                  clear hs3 hk3 hj3 r153 r163 c72 c32
                  gi_wp2_with fail
                  have hko := (keepsOthers_of HKS.out (fun k o e h => by cases e; rw [HRI.out.r16] at h; cases h; rfl)).trans ((keepsOthers_of HK2.out (fun k o e h => by cases e; obtain ⟨cs, h6, _⟩ := HS1.out.ids.ws; rw [h6] at h; cases h; rfl)).trans (keepsOthers_of HK3.out (fun k o e h => by cases e; obtain ⟨cs, h6, _⟩ := HS2.out.ids.ws; rw [h6] at h; cases h; rfl)))
                  exact ⟨hko, (HKS.out.mono (T := fun i => i = tb5 ∨ N0 ≤ i) (fun i _ e => .inr (by have : i = (N1 + 1) := e; omega))).and ((HK2.out.mono (fun i _ e => .inl e)).and (HK3.out.mono (fun i _ e => .inl e))), HORD.out.snoc HK.out.symm, (fun h => by cases h), ⟨HJ3.out, HR3.out.1, by rw [List.length_append, HK.out]; exact HR3.out.2, fun k e => by cases e; exact hko.same D1 _ (HRI.out.d D1 rfl) rfl⟩⟩
                · obtain ⟨z, hz⟩ : ∃ z : Int, ((l.getD k 0 : Nat) : Int) = z := ⟨_, rfl⟩
                  obtain ⟨z2, hz2⟩ : ∃ z2 : Int, ((l.getD y 0 : Nat) : Int) = z2 := ⟨_, rfl⟩
                  have dz : (z2 != z) = true := by
                    rw [bne_iff_ne]
                    intro e
                    exact hy (HINJ.out y k hyl HLE.out (by omega))
                  rw [hz] at g1
                  have hz' := hz2
                  rw [List.getD_eq_getElem?_getD] at hz'
                  rw [hz']
                  have HY := Lib.hid hy
                  have HB2 := Lib.hid hj.b3.h2
                  clear hri hj hkS hz hz' hz2 hk hord2 hcond hlen hy
                  gi_wp2_with fail
                  exact ⟨(keepsOthers_of ((Kept.refl (fun i => i = w.heap.size + 2) W).setCell (p := ⟨w.heap.size + 2, 0, none⟩) (fun _ => rfl) _) (fun k o e h => by cases e; rw [HB2.out] at h; cases h; rfl)), .inl ⟨rfl, fun h => HY.out (h.last.trans HK.out)⟩⟩
              case donez4 =>
                rintro D2 ys2 W2 hDl2 hS2 ⟨hord3, hcond3, hri2⟩ hK2
                have hyl2 : ys2.length = l.length := by have := congrArg List.length hS2; simpa using this
                rw [hyl2] at hri2
                have hj2 := hri2.j
                have c15 := obj_cell hri2.r15 0
                have c16 := obj_cell hri2.r16 0
                have c13 := obj_cell hj2.b13 0
                have dl : (l.length != l.length) = false := by simp
                gi_wp2_with fail
                rw [roundsIn_succ]
                gi_wp2_with fail
                refine ⟨trivial, ?_⟩
                obtain ⟨t9, hs9⟩ := hj2.st
                have hkw : Kept No W2 (W2.alloc (.cells #[.int .i64 2] 3)) := (Kept.refl No W2).alloc _
                refine (callsIn_wide.2 (known_any _ ((hs9.laid HL.out).kept hkw (not_no _)))).mono ?_
                rintro e W5 ⟨rfl, hk5⟩
                have hk25 : Kept No W2 W5 := hkw.and hk5
                have hb5 := hj2.b3.kept hk25 ⟨not_no _, not_no _, not_no _⟩
                have c6 := obj_cell hb5.h2 0
                have f6 := obj_free hb5.h2 0
                gi_wp2_with fail
                have hset : Kept (fun i => i = w.heap.size + 2) W5 (W5.setCell ⟨w.heap.size + 2, 0, none⟩ (.bool true)) := (Kept.refl (fun i => i = w.heap.size + 2) W5).setCell (p := ⟨w.heap.size + 2, 0, none⟩) (fun _ => rfl) _
                have hkk := hset
                have hd2 := hset.obj (hk25.obj hK2 (not_no _)) (by omega)
                have hd1 := hset.obj (hk25.obj (hri2.d D1 rfl) (not_no _)) (by omega)
                refine ⟨by simp, .inl ⟨_, _, rfl, run_takeDeferred hd2, ?_⟩⟩
                have hd1' : ((W5.setCell ⟨w.heap.size + 2, 0, none⟩ (.bool true)).putObj D2 (.deferred none)).heap[D1]? = some (.deferred (some [])) := by
                  rw [(grownBy_putObj' _ D2 (.deferred none)).block D1 (obj_lt hd1) (fun e => by cases e; omega)]
                  exact hd1
                refine ⟨by simp, .inl ⟨_, _, rfl, run_takeDeferred hd1', ?_⟩⟩
                have hk6 : Kept (fun i => i = D2) (W5.setCell ⟨w.heap.size + 2, 0, none⟩ (.bool true)) ((W5.setCell ⟨w.heap.size + 2, 0, none⟩ (.bool true)).putObj D2 (.deferred none)) := (Kept.refl _ _).grown (grownBy_putObj' _ D2 _) (fun k e _ => by cases e; rfl)
                have hk7 : Kept (fun i => i = D1) ((W5.setCell ⟨w.heap.size + 2, 0, none⟩ (.bool true)).putObj D2 (.deferred none)) (((W5.setCell ⟨w.heap.size + 2, 0, none⟩ (.bool true)).putObj D2 (.deferred none)).putObj D1 (.deferred none)) := (Kept.refl _ _).grown (grownBy_putObj' _ D1 _) (fun k e _ => by cases e; rfl)
                have hc6 := obj_cell (hk7.obj (hk6.obj (hb5.set true).h2 (by omega)) (by omega)) 0
                refine ⟨_, results6 rfl true hc6, rfl, ?_⟩
                exact ((((hs9.kept.and hk25).new hset (fun i e => by have : i = w.heap.size + 2 := e; omega)).new hk6 (fun i e => by have : i = D2 := e; omega)).new hk7 (fun i e => by have : i = D1 := e; omega))
              case stopz4 =>
                rintro D2 c pre W2 _ hSp (⟨rfl, h⟩ | ⟨_, h, _⟩) _
                · exact absurd hSp h
                · exact absurd h (by decide)
          · have hpm : pz = 1 := by omega
            have hq3 : 1 ≤ (l.length : Int) := by omega
            clear hpz q1 q2 q3 q4 hri hSp
            subst hpm
            by_cases hm2 : (1 : Int) < (l.length : Int)
            · gi_wp2_with fail
              clear c15 c16 c13 c5
              have hD1lt := obj_lt hD1
              have hsz1 := hj1.size
              rw [roundsIn_succ]
              gi_wp2_with fail
              have hno2 : Kept No W1 ((W1.alloc (.cells #[.int .i64 1] 3)).alloc (.cells #[.int .i64 0] 3)) := ((Kept.refl No W1).alloc _).alloc _
              obtain ⟨w14, hw14⟩ : ∃ w14, (W1.alloc (.cells #[.int .i64 1] 3)).alloc (.cells #[.int .i64 0] 3) = w14 := ⟨_, rfl⟩
              have hr152 : w14.heap[W1.heap.size]? = some (.cells #[.int .i64 1] 3 (0, 0)) := by rw [← hw14]; exact obj_alloc (heap_alloc_new W1 _) _
              have hr162 : w14.heap[W1.heap.size + 1]? = some (.cells #[.int .i64 0] 3 (0, 0)) := by rw [← hw14]; exact World.alloc_at (by simp) _
              have hs14 : w14.heap.size = W1.heap.size + 2 := by rw [← hw14]; simp
              rw [hw14] at hno2 ⊢
              obtain ⟨N1, hN1⟩ : ∃ N1, W1.heap.size = N1 := ⟨_, rfl⟩
              have hJ14 := hj1.new (hno2.any (T := fun i => N0 ≤ i))
              have hD2 := hno2.obj hD1 (not_no _)
              rw [hN1] at hr152 hr162 hs14 hsz1 hD1lt ⊢
              clear hw14 hno2 hj1 hD1
              refine wpIn_rangeFunc_ownF (w0 := w14) rfl (by decide) (gf := 37) (lb := #[.pointer (some ⟨bx, 0, none⟩)]) rfl trivial (enters_of Tryd.func37 (by kernel_rfl) rfl)
                (values_order (fun i => i = tb5 ∨ N0 ≤ i) l.length bx vx l 8 (by decide) (by have := HLEN.out; omega) rfl (by omega) w14 (fun i hi => .inr (by omega)) hJ14.cx (hJ14.rx.mono (fun i _ e => by omega)))
                (fun h k => h.and k) (fun W lb o o' hl hh ho hw => (Kept.refl _ W).grown (grownBy_putObj' W lb o') (fun k e _ => by cases e; exact .inr (by omega))) (Below.refl _ _) (fun _ => rfl)
                (LI (JT w b5 tb5 n B7 B13 bx N0 m l (.slice ad9 l.length cap9) vx) 1 m N1 (N1 + 1) (some D1)) (LX (JT w b5 tb5 n B7 B13 bx N0 m l (.slice ad9 l.length cap9) vx) 1 m N1 (N1 + 1) (some D1))
                (li_own (jt_abides (by omega)) _ _ _ _ _ (fun k e => by cases e; omega)) (fun c => lx_own (jt_abides (by omega)) _ _ _ _ _ (fun k e => by cases e; omega) c)
                ⟨inOrder_nil, (fun h => by cases h), ⟨hJ14, hr152, hr162, fun k e => by cases e; exact hD2⟩⟩ ?a1z5 ?assignz5 ?bodyz5 ?donez5 ?stopz5
              case assignz5 =>
                intro l x W K hK
                gi_wp2
                exact hK
              case bodyz5 =>
                rintro lp pre y W ⟨hord2, hcond, hri⟩ hlen
                obtain ⟨y, hyl⟩ := y
                have hj := hri.j
                obtain ⟨g, off, cap', hv, g1⟩ := hj.at hlen
                cases hv
                have hordj := hj.ord
                have hsizej := hj.size
                have c16 := obj_cell hri.r16 0
                have f16 := obj_free hri.r16 0
                have c13 := obj_cell hj.b13 0
                have c7 := obj_cell hj.b7 0
                have c6 := obj_cell hj.b3.h2 0
                have f6 := obj_free hj.b3.h2 0
                obtain ⟨k, hk⟩ : ∃ k, pre.length = k := ⟨_, rfl⟩
                rw [hk] at c16 g1 hlen
                have d1 : decide (l.length ≤ k) = false := by simp; exact hlen
                have hk200 : (k : Int) ≤ 200 := by have := HLEN.out; omega
                have hkl : (k : Int) < (l.length : Int) := by omega
                have hll : (l.length : Int) ≤ 200 := by have := HLEN.out; omega
                have hk0 : (0 : Int) ≤ (k : Int) := by omega
                have hkS : Kept (fun i => i = (N1 + 1)) W (W.setCell ⟨(N1 + 1), 0, none⟩ (.int .i64 ((k : Int) + 1))) := (Kept.refl (fun i => i = (N1 + 1)) W).setCell (p := ⟨(N1 + 1), 0, none⟩) (fun _ => rfl) _
                have HRI := Lib.hid hri
                have HK := Lib.hid hk
                have HORD := Lib.hid hord2
                have HCO := Lib.hid hcond
                have HLE := Lib.hid hlen
                dsimp only
                by_cases hy : y = k
                · subst hy
                  obtain ⟨z, hz⟩ : ∃ z : Int, ((l.getD y 0 : Nat) : Int) = z := ⟨_, rfl⟩
                  rw [hz] at g1
                  have hz' := hz
                  rw [List.getD_eq_getElem?_getD] at hz'
                  rw [hz']
                  have dz : (z != z) = false := by simp
                  have hj1 := hj.new (hkS.mono (T := fun i => N0 ≤ i) (fun i _ e => by have : i = (N1 + 1) := e; omega))
                  have c71 := obj_cell hj1.b7 0
                  obtain ⟨t1, hs1⟩ := hj1.st
                  have r151 := hkS.obj hri.r15 (by omega)
                  have r161 : (W.setCell ⟨(N1 + 1), 0, none⟩ (.int .i64 ((y : Int) + 1))).heap[(N1 + 1)]? = _ := obj_store hri.r16 0 _
                  have HJ1 := Lib.hid hj1
                  have HS1 := Lib.hid hs1
                  have HR1 := Lib.hid (And.intro r151 r161)
                  have HKS := Lib.hid hkS
                  clear hri hj hj1 hs1 r151 r161 hkS hz hz' hk hord2 hcond hlen c7
                  gi_wp2_with fail
                  refine ⟨trivial, ?_⟩
                  refine (CallsIn.inRound lp (callsIn_wide.2 (st_free HS1.out z))).mono ?_
                  rintro e W2 ⟨rfl, hs2, hk2⟩
                  have hj2 := HJ1.out.bk hs2 hk2
                  have r152 := hk2.obj HR1.out.1 (show ¬ N1 = tb5 by omega)
                  have r162 := hk2.obj HR1.out.2 (show ¬ (N1 + 1) = tb5 by omega)
                  have c72 := obj_cell hj2.b7 0
                  have c32 := obj_cell hj2.b3.h0 0
                  have HS2 := Lib.hid hs2
                  have HJ2 := Lib.hid hj2
                  have HR2 := Lib.hid (And.intro r152 r162)
                  have HK2 := Lib.hid hk2
                  clear hs2 hk2 hj2 r152 r162 c71 c16 f16 c13
                  gi_wp2_with fail
                  refine ⟨trivial, ?_⟩
                  refine (CallsIn.inRound lp (callsIn_wide.2 (st_claim HS2.out (n : Nat)))).mono ?_
                  rintro e W3 ⟨rfl, hs3, hk3⟩
                  have hj3 := HJ2.out.bk hs3 hk3
                  have r153 := hk3.obj HR2.out.1 (show ¬ N1 = tb5 by omega)
                  have r163 := hk3.obj HR2.out.2 (show ¬ (N1 + 1) = tb5 by omega)
                  have c15 := obj_cell r153 0
                  have c16 := obj_cell r163 0
                  have c53 := obj_cell hj3.b3.h1 0
                  have HJ3 := Lib.hid hj3
                  have HR3 := Lib.hid (And.intro r153 r163)
                  have HK3 := Lib.hid hk3
                  clear hs3 hk3 hj3 r153 r163 c72 c32
                  gi_wp2_with fail
                  have hko := (keepsOthers_of HKS.out (fun k o e h => by cases e; rw [HRI.out.r16] at h; cases h; rfl)).trans ((keepsOthers_of HK2.out (fun k o e h => by cases e; obtain ⟨cs, h6, _⟩ := HS1.out.ids.ws; rw [h6] at h; cases h; rfl)).trans (keepsOthers_of HK3.out (fun k o e h => by cases e; obtain ⟨cs, h6, _⟩ := HS2.out.ids.ws; rw [h6] at h; cases h; rfl)))
                  exact ⟨hko, (HKS.out.mono (T := fun i => i = tb5 ∨ N0 ≤ i) (fun i _ e => .inr (by have : i = (N1 + 1) := e; omega))).and ((HK2.out.mono (fun i _ e => .inl e)).and (HK3.out.mono (fun i _ e => .inl e))), HORD.out.snoc HK.out.symm, (fun h => by cases h), ⟨HJ3.out, HR3.out.1, by rw [List.length_append, HK.out]; exact HR3.out.2, fun k e => by cases e; exact hko.same D1 _ (HRI.out.d D1 rfl) rfl⟩⟩
                · obtain ⟨z, hz⟩ : ∃ z : Int, ((l.getD k 0 : Nat) : Int) = z := ⟨_, rfl⟩
                  obtain ⟨z2, hz2⟩ : ∃ z2 : Int, ((l.getD y 0 : Nat) : Int) = z2 := ⟨_, rfl⟩
                  have dz : (z2 != z) = true := by
                    rw [bne_iff_ne]
                    intro e
                    exact hy (HINJ.out y k hyl HLE.out (by omega))
                  rw [hz] at g1
                  have hz' := hz2
                  rw [List.getD_eq_getElem?_getD] at hz'
                  rw [hz']
                  have HY := Lib.hid hy
                  have HB2 := Lib.hid hj.b3.h2
                  clear hri hj hkS hz hz' hz2 hk hord2 hcond hlen hy
                  gi_wp2_with fail
                  exact ⟨(keepsOthers_of ((Kept.refl (fun i => i = w.heap.size + 2) W).setCell (p := ⟨w.heap.size + 2, 0, none⟩) (fun _ => rfl) _) (fun k o e h => by cases e; rw [HB2.out] at h; cases h; rfl)), .inl ⟨rfl, fun h => HY.out (h.last.trans HK.out)⟩⟩
              case donez5 =>
                rintro D2 ys2 W2 hDl2 hS2 ⟨hord3, hcond3, hri2⟩ hK2
                have hyl2 : ys2.length = l.length := by have := congrArg List.length hS2; simpa using this
                rw [hyl2] at hri2
                have hj2 := hri2.j
                have c15 := obj_cell hri2.r15 0
                have c16 := obj_cell hri2.r16 0
                have c13 := obj_cell hj2.b13 0
                have dl : (l.length != l.length) = false := by simp
                gi_wp2_with fail
                rw [roundsIn_succ]
                gi_wp2_with fail
                refine ⟨trivial, ?_⟩
                obtain ⟨t9, hs9⟩ := hj2.st
                have hkw : Kept No W2 (W2.alloc (.cells #[.int .i64 2] 3)) := (Kept.refl No W2).alloc _
                refine (callsIn_wide.2 (known_any _ ((hs9.laid HL.out).kept hkw (not_no _)))).mono ?_
                rintro e W5 ⟨rfl, hk5⟩
                have hk25 : Kept No W2 W5 := hkw.and hk5
                have hb5 := hj2.b3.kept hk25 ⟨not_no _, not_no _, not_no _⟩
                have c6 := obj_cell hb5.h2 0
                have f6 := obj_free hb5.h2 0
                gi_wp2_with fail
                have hset : Kept (fun i => i = w.heap.size + 2) W5 (W5.setCell ⟨w.heap.size + 2, 0, none⟩ (.bool true)) := (Kept.refl (fun i => i = w.heap.size + 2) W5).setCell (p := ⟨w.heap.size + 2, 0, none⟩) (fun _ => rfl) _
                have hkk := hset
                have hd2 := hset.obj (hk25.obj hK2 (not_no _)) (by omega)
                have hd1 := hset.obj (hk25.obj (hri2.d D1 rfl) (not_no _)) (by omega)
                refine ⟨by simp, .inl ⟨_, _, rfl, run_takeDeferred hd2, ?_⟩⟩
                have hd1' : ((W5.setCell ⟨w.heap.size + 2, 0, none⟩ (.bool true)).putObj D2 (.deferred none)).heap[D1]? = some (.deferred (some [])) := by
                  rw [(grownBy_putObj' _ D2 (.deferred none)).block D1 (obj_lt hd1) (fun e => by cases e; omega)]
                  exact hd1
                refine ⟨by simp, .inl ⟨_, _, rfl, run_takeDeferred hd1', ?_⟩⟩
                have hk6 : Kept (fun i => i = D2) (W5.setCell ⟨w.heap.size + 2, 0, none⟩ (.bool true)) ((W5.setCell ⟨w.heap.size + 2, 0, none⟩ (.bool true)).putObj D2 (.deferred none)) := (Kept.refl _ _).grown (grownBy_putObj' _ D2 _) (fun k e _ => by cases e; rfl)
                have hk7 : Kept (fun i => i = D1) ((W5.setCell ⟨w.heap.size + 2, 0, none⟩ (.bool true)).putObj D2 (.deferred none)) (((W5.setCell ⟨w.heap.size + 2, 0, none⟩ (.bool true)).putObj D2 (.deferred none)).putObj D1 (.deferred none)) := (Kept.refl _ _).grown (grownBy_putObj' _ D1 _) (fun k e _ => by cases e; rfl)
                have hc6 := obj_cell (hk7.obj (hk6.obj (hb5.set true).h2 (by omega)) (by omega)) 0
                refine ⟨_, results6 rfl true hc6, rfl, ?_⟩
                exact ((((hs9.kept.and hk25).new hset (fun i e => by have : i = w.heap.size + 2 := e; omega)).new hk6 (fun i e => by have : i = D2 := e; omega)).new hk7 (fun i e => by have : i = D1 := e; omega))
              case stopz5 =>
                rintro D2 c pre W2 _ hSp (⟨rfl, h⟩ | ⟨_, h, _⟩) _
                · exact absurd hSp h
                · exact absurd h (by decide)
            · have e1 : ((1 : Int) != (l.length : Int)) = false := by have h9 : (l.length : Int) = 1 := (by omega); simp [h9]
              have e2 : (1 != l.length) = false := by have h9 : l.length = 1 := (by omega); simp [h9]
              gi_wp2_with fail
              clear c15 c16 c13 c5
              have hD1lt := obj_lt hD1
              have hsz1 := hj1.size
              rw [roundsIn_succ]
              gi_wp2_with fail
              have hno2 : Kept No W1 ((W1.alloc (.cells #[.int .i64 1] 3)).alloc (.cells #[.int .i64 0] 3)) := ((Kept.refl No W1).alloc _).alloc _
              obtain ⟨w14, hw14⟩ : ∃ w14, (W1.alloc (.cells #[.int .i64 1] 3)).alloc (.cells #[.int .i64 0] 3) = w14 := ⟨_, rfl⟩
              have hr152 : w14.heap[W1.heap.size]? = some (.cells #[.int .i64 1] 3 (0, 0)) := by rw [← hw14]; exact obj_alloc (heap_alloc_new W1 _) _
              have hr162 : w14.heap[W1.heap.size + 1]? = some (.cells #[.int .i64 0] 3 (0, 0)) := by rw [← hw14]; exact World.alloc_at (by simp) _
              have hs14 : w14.heap.size = W1.heap.size + 2 := by rw [← hw14]; simp
              rw [hw14] at hno2 ⊢
              obtain ⟨N1, hN1⟩ : ∃ N1, W1.heap.size = N1 := ⟨_, rfl⟩
              have hJ14 := hj1.new (hno2.any (T := fun i => N0 ≤ i))
              have hD2 := hno2.obj hD1 (not_no _)
              rw [hN1] at hr152 hr162 hs14 hsz1 hD1lt ⊢
              clear hw14 hno2 hj1 hD1
              refine wpIn_rangeFunc_ownF (w0 := w14) rfl (by decide) (gf := 37) (lb := #[.pointer (some ⟨bx, 0, none⟩)]) rfl trivial (enters_of Tryd.func37 (by kernel_rfl) rfl)
                (values_order (fun i => i = tb5 ∨ N0 ≤ i) l.length bx vx l 8 (by decide) (by have := HLEN.out; omega) rfl (by omega) w14 (fun i hi => .inr (by omega)) hJ14.cx (hJ14.rx.mono (fun i _ e => by omega)))
                (fun h k => h.and k) (fun W lb o o' hl hh ho hw => (Kept.refl _ W).grown (grownBy_putObj' W lb o') (fun k e _ => by cases e; exact .inr (by omega))) (Below.refl _ _) (fun _ => rfl)
                (LI (JT w b5 tb5 n B7 B13 bx N0 m l (.slice ad9 l.length cap9) vx) 1 m N1 (N1 + 1) (some D1)) (LX (JT w b5 tb5 n B7 B13 bx N0 m l (.slice ad9 l.length cap9) vx) 1 m N1 (N1 + 1) (some D1))
                (li_own (jt_abides (by omega)) _ _ _ _ _ (fun k e => by cases e; omega)) (fun c => lx_own (jt_abides (by omega)) _ _ _ _ _ (fun k e => by cases e; omega) c)
                ⟨inOrder_nil, (fun h => by cases h), ⟨hJ14, hr152, hr162, fun k e => by cases e; exact hD2⟩⟩ ?a1z6 ?assignz6 ?bodyz6 ?donez6 ?stopz6
              case assignz6 =>
                intro l x W K hK
                gi_wp2
                exact hK
              case bodyz6 =>
                rintro lp pre y W ⟨hord2, hcond, hri⟩ hlen
                obtain ⟨y, hyl⟩ := y
                have hj := hri.j
                obtain ⟨g, off, cap', hv, g1⟩ := hj.at hlen
                cases hv
                have hordj := hj.ord
                have hsizej := hj.size
                have c16 := obj_cell hri.r16 0
                have f16 := obj_free hri.r16 0
                have c13 := obj_cell hj.b13 0
                have c7 := obj_cell hj.b7 0
                have c6 := obj_cell hj.b3.h2 0
                have f6 := obj_free hj.b3.h2 0
                obtain ⟨k, hk⟩ : ∃ k, pre.length = k := ⟨_, rfl⟩
                rw [hk] at c16 g1 hlen
                have d1 : decide (l.length ≤ k) = false := by simp; exact hlen
                have hk200 : (k : Int) ≤ 200 := by have := HLEN.out; omega
                have hkl : (k : Int) < (l.length : Int) := by omega
                have hll : (l.length : Int) ≤ 200 := by have := HLEN.out; omega
                have hk0 : (0 : Int) ≤ (k : Int) := by omega
                have hkS : Kept (fun i => i = (N1 + 1)) W (W.setCell ⟨(N1 + 1), 0, none⟩ (.int .i64 ((k : Int) + 1))) := (Kept.refl (fun i => i = (N1 + 1)) W).setCell (p := ⟨(N1 + 1), 0, none⟩) (fun _ => rfl) _
                have HRI := Lib.hid hri
                have HK := Lib.hid hk
                have HORD := Lib.hid hord2
                have HCO := Lib.hid hcond
                have HLE := Lib.hid hlen
                dsimp only
                by_cases hy : y = k
                · subst hy
                  obtain ⟨z, hz⟩ : ∃ z : Int, ((l.getD y 0 : Nat) : Int) = z := ⟨_, rfl⟩
                  rw [hz] at g1
                  have hz' := hz
                  rw [List.getD_eq_getElem?_getD] at hz'
                  rw [hz']
                  have dz : (z != z) = false := by simp
                  have hj1 := hj.new (hkS.mono (T := fun i => N0 ≤ i) (fun i _ e => by have : i = (N1 + 1) := e; omega))
                  have c71 := obj_cell hj1.b7 0
                  obtain ⟨t1, hs1⟩ := hj1.st
                  have r151 := hkS.obj hri.r15 (by omega)
                  have r161 : (W.setCell ⟨(N1 + 1), 0, none⟩ (.int .i64 ((y : Int) + 1))).heap[(N1 + 1)]? = _ := obj_store hri.r16 0 _
                  have HJ1 := Lib.hid hj1
                  have HS1 := Lib.hid hs1
                  have HR1 := Lib.hid (And.intro r151 r161)
                  have HKS := Lib.hid hkS
                  clear hri hj hj1 hs1 r151 r161 hkS hz hz' hk hord2 hcond hlen c7
                  gi_wp2_with fail
                  refine ⟨trivial, ?_⟩
                  refine (CallsIn.inRound lp (callsIn_wide.2 (st_free HS1.out z))).mono ?_
                  rintro e W2 ⟨rfl, hs2, hk2⟩
                  have hj2 := HJ1.out.bk hs2 hk2
                  have r152 := hk2.obj HR1.out.1 (show ¬ N1 = tb5 by omega)
                  have r162 := hk2.obj HR1.out.2 (show ¬ (N1 + 1) = tb5 by omega)
                  have c72 := obj_cell hj2.b7 0
                  have c32 := obj_cell hj2.b3.h0 0
                  have HS2 := Lib.hid hs2
                  have HJ2 := Lib.hid hj2
                  have HR2 := Lib.hid (And.intro r152 r162)
                  have HK2 := Lib.hid hk2
                  clear hs2 hk2 hj2 r152 r162 c71 c16 f16 c13
                  gi_wp2_with fail
                  refine ⟨trivial, ?_⟩
                  refine (CallsIn.inRound lp (callsIn_wide.2 (st_claim HS2.out (n : Nat)))).mono ?_
                  rintro e W3 ⟨rfl, hs3, hk3⟩
                  have hj3 := HJ2.out.bk hs3 hk3
                  have r153 := hk3.obj HR2.out.1 (show ¬ N1 = tb5 by omega)
                  have r163 := hk3.obj HR2.out.2 (show ¬ (N1 + 1) = tb5 by omega)
                  have c15 := obj_cell r153 0
                  have c16 := obj_cell r163 0
                  have c53 := obj_cell hj3.b3.h1 0
                  have HJ3 := Lib.hid hj3
                  have HR3 := Lib.hid (And.intro r153 r163)
                  have HK3 := Lib.hid hk3
                  clear hs3 hk3 hj3 r153 r163 c72 c32
                  gi_wp2_with fail
                  have hko := (keepsOthers_of HKS.out (fun k o e h => by cases e; rw [HRI.out.r16] at h; cases h; rfl)).trans ((keepsOthers_of HK2.out (fun k o e h => by cases e; obtain ⟨cs, h6, _⟩ := HS1.out.ids.ws; rw [h6] at h; cases h; rfl)).trans (keepsOthers_of HK3.out (fun k o e h => by cases e; obtain ⟨cs, h6, _⟩ := HS2.out.ids.ws; rw [h6] at h; cases h; rfl)))
                  exact ⟨hko, (HKS.out.mono (T := fun i => i = tb5 ∨ N0 ≤ i) (fun i _ e => .inr (by have : i = (N1 + 1) := e; omega))).and ((HK2.out.mono (fun i _ e => .inl e)).and (HK3.out.mono (fun i _ e => .inl e))), HORD.out.snoc HK.out.symm, (fun h => by cases h), ⟨HJ3.out, HR3.out.1, by rw [List.length_append, HK.out]; exact HR3.out.2, fun k e => by cases e; exact hko.same D1 _ (HRI.out.d D1 rfl) rfl⟩⟩
                · obtain ⟨z, hz⟩ : ∃ z : Int, ((l.getD k 0 : Nat) : Int) = z := ⟨_, rfl⟩
                  obtain ⟨z2, hz2⟩ : ∃ z2 : Int, ((l.getD y 0 : Nat) : Int) = z2 := ⟨_, rfl⟩
                  have dz : (z2 != z) = true := by
                    rw [bne_iff_ne]
                    intro e
                    exact hy (HINJ.out y k hyl HLE.out (by omega))
                  rw [hz] at g1
                  have hz' := hz2
                  rw [List.getD_eq_getElem?_getD] at hz'
                  rw [hz']
                  have HY := Lib.hid hy
                  have HB2 := Lib.hid hj.b3.h2
                  clear hri hj hkS hz hz' hz2 hk hord2 hcond hlen hy
                  gi_wp2_with fail
                  exact ⟨(keepsOthers_of ((Kept.refl (fun i => i = w.heap.size + 2) W).setCell (p := ⟨w.heap.size + 2, 0, none⟩) (fun _ => rfl) _) (fun k o e h => by cases e; rw [HB2.out] at h; cases h; rfl)), .inl ⟨rfl, fun h => HY.out (h.last.trans HK.out)⟩⟩
              case donez6 =>
                rintro D2 ys2 W2 hDl2 hS2 ⟨hord3, hcond3, hri2⟩ hK2
                have hyl2 : ys2.length = l.length := by have := congrArg List.length hS2; simpa using this
                rw [hyl2] at hri2
                have hj2 := hri2.j
                have c15 := obj_cell hri2.r15 0
                have c16 := obj_cell hri2.r16 0
                have c13 := obj_cell hj2.b13 0
                have dl : (l.length != l.length) = false := by simp
                gi_wp2_with fail
                rw [roundsIn_succ]
                gi_wp2_with fail
                refine ⟨trivial, ?_⟩
                obtain ⟨t9, hs9⟩ := hj2.st
                have hkw : Kept No W2 (W2.alloc (.cells #[.int .i64 2] 3)) := (Kept.refl No W2).alloc _
                refine (callsIn_wide.2 (known_any _ ((hs9.laid HL.out).kept hkw (not_no _)))).mono ?_
                rintro e W5 ⟨rfl, hk5⟩
                have hk25 : Kept No W2 W5 := hkw.and hk5
                have hb5 := hj2.b3.kept hk25 ⟨not_no _, not_no _, not_no _⟩
                have c6 := obj_cell hb5.h2 0
                have f6 := obj_free hb5.h2 0
                gi_wp2_with fail
                have hset : Kept (fun i => i = w.heap.size + 2) W5 (W5.setCell ⟨w.heap.size + 2, 0, none⟩ (.bool true)) := (Kept.refl (fun i => i = w.heap.size + 2) W5).setCell (p := ⟨w.heap.size + 2, 0, none⟩) (fun _ => rfl) _
                have hkk := hset
                have hd2 := hset.obj (hk25.obj hK2 (not_no _)) (by omega)
                have hd1 := hset.obj (hk25.obj (hri2.d D1 rfl) (not_no _)) (by omega)
                refine ⟨by simp, .inl ⟨_, _, rfl, run_takeDeferred hd2, ?_⟩⟩
                have hd1' : ((W5.setCell ⟨w.heap.size + 2, 0, none⟩ (.bool true)).putObj D2 (.deferred none)).heap[D1]? = some (.deferred (some [])) := by
                  rw [(grownBy_putObj' _ D2 (.deferred none)).block D1 (obj_lt hd1) (fun e => by cases e; omega)]
                  exact hd1
                refine ⟨by simp, .inl ⟨_, _, rfl, run_takeDeferred hd1', ?_⟩⟩
                have hk6 : Kept (fun i => i = D2) (W5.setCell ⟨w.heap.size + 2, 0, none⟩ (.bool true)) ((W5.setCell ⟨w.heap.size + 2, 0, none⟩ (.bool true)).putObj D2 (.deferred none)) := (Kept.refl _ _).grown (grownBy_putObj' _ D2 _) (fun k e _ => by cases e; rfl)
                have hk7 : Kept (fun i => i = D1) ((W5.setCell ⟨w.heap.size + 2, 0, none⟩ (.bool true)).putObj D2 (.deferred none)) (((W5.setCell ⟨w.heap.size + 2, 0, none⟩ (.bool true)).putObj D2 (.deferred none)).putObj D1 (.deferred none)) := (Kept.refl _ _).grown (grownBy_putObj' _ D1 _) (fun k e _ => by cases e; rfl)
                have hc6 := obj_cell (hk7.obj (hk6.obj (hb5.set true).h2 (by omega)) (by omega)) 0
                refine ⟨_, results6 rfl true hc6, rfl, ?_⟩
                exact ((((hs9.kept.and hk25).new hset (fun i e => by have : i = w.heap.size + 2 := e; omega)).new hk6 (fun i e => by have : i = D2 := e; omega)).new hk7 (fun i e => by have : i = D1 := e; omega))
              case stopz6 =>
                rintro D2 c pre W2 _ hSp (⟨rfl, h⟩ | ⟨_, h, _⟩) _
                · exact absurd hSp h
                · exact absurd h (by decide)
end Go.Proofs.YtkdienebinnopaaDoor
