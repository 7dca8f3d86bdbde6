/-
  IdentPlays: one call (do) and the looks behind it.
-/
import Derived.Test.YtkdienebinnopaaDoorWalkM
namespace Go.Proofs.YtkdienebinnopaaDoor
open Go.RowKit Go.Zn Go.Shelf
attribute [local go_sem] Oper.semAt_some

/-- the program's ids and the reference's, at one state -/
structure PS (w0 : World) (b tb n : Nat) (t : Nat → Bool) (v : Value) (w : World) : Prop where
  st : St w0 b tb n t w
  rf : Rf w (fun i => i ≠ tb) v n t
theorem PS.no {w0 w w' : World} {b tb n : Nat} {t : Nat → Bool} {v : Value} (h : PS w0 b tb n t v w) (hk : Kept No w w') : PS w0 b tb n t v w' := ⟨h.st.no hk, h.rf.no hk⟩
theorem Rf.bk {w w' : World} {tb n : Nat} {t : Nat → Bool} {v : Value} (h : Rf w (fun i => i ≠ tb) v n t) (hk : Kept (Bk tb) w w') : Rf w' (fun i => i ≠ tb) v n t := Rd.kept h hk (fun _ _ e h => e h)
theorem PS.ref {w0 w : World} {b tb n : Nat} {t t' : Nat → Bool} {v : Value} {w' : World} {v' : Value} (h : PS w0 b tb n t v w) (hr : Rf w' (Bn (fun i => i ≠ tb) w) v' n t') : Rf w' (fun i => i ≠ tb) v' n t' :=
  Rd.mono hr (fun i _ e => by
    have := h.st.ids.lt
    rcases e with e | e
    · exact e
    · intro e2; omega)
def DoPostK (w0 : World) (n tb0 : Nat) (w : World) (e : Ending) (w' : World) : Prop := ∃ b tb t v, e = .returned (.tuple #[.pointer (some ⟨b, 0, none⟩), v, .bool true]) ∧ PS w0 b tb n t v w' ∧ Kept (Bk tb0) w w'
def DoPost (w0 : World) (n : Nat) (e : Ending) (w' : World) : Prop := ∃ b tb t v, e = .returned (.tuple #[.pointer (some ⟨b, 0, none⟩), v, .bool true]) ∧ PS w0 b tb n t v w'
theorem ps_copy {w0 w2 w4 : World} {b tb b2 tb2 n N1 : Nat} {t t' : Nat → Bool} {v : Value} (h : Ids w2 b2 tb2 n t) (hs : St w0 b tb n t' w4) (hr : Rd w2 (fun i => i ≠ tb ∧ i < N1) 1 v n (bls t n)) (hk : Kept (Bk tb) w2 w4)
    (hN : tb < b2 ∧ tb < tb2 ∧ w0.heap.size ≤ tb2 ∧ N1 ≤ tb2) : PS w0 b2 tb2 n t v w4 :=
  ⟨⟨h.off hk (fun e => by have : b2 = tb := e; omega) (fun e => by have : tb2 = tb := e; omega), hs.kept, hN.2.2.1⟩, (Rd.kept hr hk (fun _ _ e h => e.1 h)).mono (fun i _ e => by have := e.2; omega)⟩
set_option maxRecDepth 100000 in
set_option maxHeartbeats 3200000 in
theorem do_anyK {w0 w : World} {b tb n : Nat} {t : Nat → Bool} {v : Value} (h : PS w0 b tb n t v w) (hl : Laid w0) (what id : Int) :
    Calls Tryd.prog 18 #[.pointer (some ⟨b, 0, none⟩), v, .agg #[.int .i64 what, .int .i64 id]] w (DoPostK w0 n tb w) := by
  have hn : n ≤ 4096 := h.st.ids.m2
  obtain ⟨ad, cap, rfl⟩ := rd_slice h.rf
  have HL := Lib.hid hl
  obtain ⟨w1, hw1⟩ : ∃ w1, w.alloc (.cells #[.int .i64 what, .int .i64 id] 35) = w1 := ⟨_, rfl⟩
  have hb1 : w1.heap[w.heap.size]? = some (.cells #[.int .i64 what, .int .i64 id] 35 (0, 0)) := by rw [← hw1]; exact heap_alloc_new w _
  have HB := Lib.hid hb1
  have c0 := obj_cell hb1 0
  have c1 := obj_cell hb1 1
  have h1 : PS w0 b tb n t (.slice ad n cap) w1 := h.no (by rw [← hw1]; exact (Kept.refl No w).alloc _)
  have HW1 := Lib.hid (show Kept No w w1 by rw [← hw1]; exact (Kept.refl No w).alloc _)
  have H := Lib.hid h1
  have HBT := Lib.hid (show w.heap.size ≠ tb by have := h.st.ids.lt; omega)
  clear hl h h1 hb1
  go_enter Tryd.func18, Tryd.ntmps18
  by_cases e0 : what = 0
  · subst e0
    go_wp2_with fail
    refine (rtake_any H.out.rf hn).mono ?_
    rintro e w2 (⟨j, v2, hlf, rfl, hr, hk⟩ | ⟨hat, v2, rfl, hr, hk⟩)
    · have HR := Lib.hid (H.out.ref hr)
      have HS := Lib.hid (H.out.st.no hk)
      have HK12 := Lib.hid (HW1.out.and hk)
      have HLF := Lib.hid hlf
      clear hr hk hlf c0 c1
      go_wp2_with fail
      refine (st_takes HS.out HL.out j HLF.out (j : Nat) rfl).mono ?_
      rintro e w3 ⟨rfl, hs3, hk3⟩
      have HF := Lib.hid (show PS w0 b tb n (put t j true) v2 w3 ∧ Kept (Bk tb) w w3 from ⟨⟨hs3, HR.out.bk hk3⟩, HK12.out.any.and hk3⟩)
      clear hs3 hk3
      go_wp2_with fail
      go_ret3
      exact ⟨b, tb, _, _, rfl, HF.out⟩
    · have HR := Lib.hid (H.out.ref hr)
      have HS := Lib.hid (H.out.st.no hk)
      have HK12 := Lib.hid (HW1.out.and hk)
      have HAT := Lib.hid hat
      clear hr hk hat c0 c1
      go_wp2_with fail
      refine (st_full HS.out HL.out HAT.out).mono ?_
      rintro e w3 ⟨rfl, hs3, hk3⟩
      have HF := Lib.hid (show PS w0 b tb n t v2 w3 ∧ Kept (Bk tb) w w3 from ⟨⟨hs3, HR.out.bk hk3⟩, HK12.out.any.and hk3⟩)
      clear hs3 hk3
      go_wp2_with fail
      go_ret3
      exact ⟨b, tb, _, _, rfl, HF.out⟩
  · by_cases e1 : what = 1
    · subst e1
      go_wp2_with fail
      refine (rclaim_any H.out.rf hn id).mono ?_
      rintro e w2 ⟨v2, rfl, hr, hk⟩
      have HR := Lib.hid (H.out.ref hr)
      have HS := Lib.hid (H.out.st.no hk)
      have HK12 := Lib.hid (HW1.out.and hk)
      have c2 := hk.cell c1 (not_no _)
      obtain ⟨c, hc⟩ : ∃ c, claimC t n id = c := ⟨_, rfl⟩
      rw [hc]
      have HC := Lib.hid hc
      clear hr hk hc c0 c1
      go_wp2_with fail
      refine (st_claim HS.out id).mono ?_
      rintro e w3 ⟨rfl, hs3, hk3⟩
      rw [HC.out]
      have dc : (c == c) = true := by simp
      have HF := Lib.hid (show PS w0 b tb n (claimT t n id) v2 w3 ∧ Kept (Bk tb) w w3 from ⟨⟨hs3, HR.out.bk hk3⟩, HK12.out.any.and hk3⟩)
      clear hs3 hk3
      go_wp2_with fail
      go_ret3
      exact ⟨b, tb, _, _, rfl, HF.out⟩
    · by_cases e2 : what = 2
      · subst e2
        go_wp2_with fail
        refine (rfree_any H.out.rf hn id).mono ?_
        rintro e w2 ⟨v2, rfl, hr, hk⟩
        have HR := Lib.hid (H.out.ref hr)
        have HS := Lib.hid (H.out.st.no hk)
        have HK12 := Lib.hid (HW1.out.and hk)
        have c2 := hk.cell c1 (not_no _)
        obtain ⟨c, hc⟩ : ∃ c, freeC t n id = c := ⟨_, rfl⟩
        rw [hc]
        have HC := Lib.hid hc
        clear hr hk hc c0 c1
        go_wp2_with fail
        refine (st_free HS.out id).mono ?_
        rintro e w3 ⟨rfl, hs3, hk3⟩
        rw [HC.out]
        have dc : (c == c) = true := by simp
        have HF := Lib.hid (show PS w0 b tb n (freeT t n id) v2 w3 ∧ Kept (Bk tb) w w3 from ⟨⟨hs3, HR.out.bk hk3⟩, HK12.out.any.and hk3⟩)
        clear hs3 hk3
        go_wp2_with fail
        go_ret3
        exact ⟨b, tb, _, _, rfl, HF.out⟩
      · by_cases e3 : what = 3
        · subst e3
          obtain ⟨y, hy⟩ : ∃ y, has t id = y := ⟨_, rfl⟩
          have HY := Lib.hid hy
          have hh := fun q => has_any (H.out.st.ids.drewN q) id
          have hr := fun q => rhas_any (H.out.rf.no ((Kept.refl No w1).drewN q)) H.out.st.ids.only id
          rw [hy] at hh hr
          have HH := Lib.hid hh
          have HR := Lib.hid hr
          clear hh hr hy
          have dy : (y == y) = true := by simp
          go_wp2_with fail
          go_quiet (first
            | (go_at_call 16; exact Calls.quiet_of ((HH.out _).mono (fun e w' ⟨q, he, hw⟩ => ⟨he, q, hw⟩)))
            | (go_at_call 31; exact Calls.quiet_of_same ((HR.out _).mono (fun e w' ⟨he, hw⟩ => ⟨he, hw.symm⟩))))
          go_wp2_with fail
          go_ret3
          exact ⟨b, tb, _, _, rfl, H.out.no ((Kept.refl No w1).drewN _), (HW1.out.drewN _).any⟩
        · go_wp2_with fail
          refine (copy_ok H.out.st.ids).mono ?_
          rintro e w2 ⟨b2, tb2, rfl, hi2, hb2, htb2, hk2⟩
          have HI2 := Lib.hid hi2
          have HS := Lib.hid (H.out.st.no hk2)
          have HK12 := Lib.hid (HW1.out.and hk2)
          have HR := Lib.hid (Rd.kept (Rd.both H.out.rf (rd_lt H.out.rf)) hk2 (fun _ _ _ => not_no _))
          have HT := Lib.hid (take_any HS.out.ids (HS.out.laid HL.out))
          have HN := Lib.hid (show tb < b2 ∧ tb < tb2 ∧ w0.heap.size ≤ tb2 ∧ w1.heap.size ≤ tb2 by have := H.out.st.ids.lt; have := H.out.st.kept.size; omega)
          clear hi2 hb2 htb2 hk2 c0 c1
          go_wp2_with fail
          refine HT.out.mono ?_
          rintro e w3 (⟨j, hlf, rfl, hi3, hk3⟩ | ⟨hat, rfl, rfl⟩)
          · have HS3 := Lib.hid (HS.out.put hi3 hk3)
            have HK3 := Lib.hid hk3
            clear hlf hi3 hk3
            go_wp2_with fail
            refine (st_free HS3.out 1).mono ?_
            rintro e w4 ⟨rfl, hs4, hk4⟩
            have HS4 := Lib.hid hs4
            have HK4 := Lib.hid (HK3.out.and hk4)
            clear hs4 hk4
            go_wp2_with fail
            go_ret3
            exact ⟨b2, tb2, t, _, rfl, ps_copy HI2.out HS4.out HR.out HK4.out HN.out, HK12.out.any.and HK4.out⟩
          · clear hat
            go_wp2_with fail
            refine (st_free HS.out 1).mono ?_
            rintro e w4 ⟨rfl, hs4, hk4⟩
            have HS4 := Lib.hid hs4
            have HK4 := Lib.hid hk4
            clear hs4 hk4
            go_wp2_with fail
            go_ret3
            exact ⟨b2, tb2, t, _, rfl, ps_copy HI2.out HS4.out HR.out HK4.out HN.out, HK12.out.any.and HK4.out⟩
theorem do_any {w0 w : World} {b tb n : Nat} {t : Nat → Bool} {v : Value} (h : PS w0 b tb n t v w) (hl : Laid w0) (what id : Int) :
    Calls Tryd.prog 18 #[.pointer (some ⟨b, 0, none⟩), v, .agg #[.int .i64 what, .int .i64 id]] w (DoPost w0 n) :=
  (do_anyK h hl what id).mono fun e w' ⟨b, tb, t, v, e1, e2, _⟩ => ⟨b, tb, t, v, e1, e2⟩
end Go.Proofs.YtkdienebinnopaaDoor
