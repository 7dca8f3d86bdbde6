/-
  IdentPlays: looks; the walk.
-/
import Derived.Test.YtkdienebinnopaaDoorWalkN
namespace Go.Proofs.YtkdienebinnopaaDoor
open Go.RowKit Go.Zn Go.Shelf
attribute [local go_sem] Oper.semAt_some

def LooksPost (w0 : World) (b tb n : Nat) (t : Nat → Bool) (v : Value) (e : Ending) (w' : World) : Prop := e = .returned (.bool true) ∧ PS w0 b tb n t v w'
set_option maxRecDepth 100000 in
set_option maxHeartbeats 3200000 in
theorem looks_any {w0 w : World} {b tb n : Nat} {t : Nat → Bool} {v : Value} (h : PS w0 b tb n t v w) : Calls Tryd.prog 19 #[.pointer (some ⟨b, 0, none⟩), v] w (LooksPost w0 b tb n t v) := by
  have hn : n ≤ 4096 := h.st.ids.m2
  obtain ⟨ad, cap, rfl⟩ := rd_slice h.rf
  have H := Lib.hid h
  clear h
  go_enter Tryd.func19, Tryd.ntmps19
  go_wp2_with fail
  refine (rall_any H.out.rf hn).mono ?_
  rintro e w1 ⟨v1, rfl, hr1, hk1⟩
  obtain ⟨ad1, cap1, rfl⟩ := rd_slice hr1
  have H1 := Lib.hid (H.out.no hk1)
  have HA := Lib.hid (st_all H1.out.st _ _ hr1)
  obtain ⟨m, hm⟩ : ∃ m, (idl t n).length = m := ⟨_, rfl⟩
  have hcm : cnt t n = m := by rw [← hm, idl_length]
  have hmn : m ≤ n := by rw [← hcm]; exact cnt_le t n
  rw [hm] at HA ⊢
  have HC := Lib.hid hcm
  clear hr1 hk1 hm hcm
  go_wp2_with fail
  refine HA.out.mono ?_
  rintro e w2 ⟨rfl, hs2, hk2⟩
  have H2 := Lib.hid (show PS w0 b tb n t (.slice ad n cap) w2 from ⟨hs2, H1.out.rf.bk hk2⟩)
  clear hs2 hk2
  go_wp2_with fail
  refine (st_len H2.out.st).mono ?_
  rintro e w3 ⟨rfl, hs3, hk3⟩
  rw [HC.out]
  have H3 := Lib.hid (show PS w0 b tb n t (.slice ad n cap) w3 from ⟨hs3, H2.out.rf.bk hk3⟩)
  clear hs3 hk3
  go_wp2_with fail
  refine (st_room H3.out.st ((n : Int) - (m : Int)) (by rw [HC.out])).mono ?_
  rintro e w4 ⟨rfl, hs4, hk4⟩
  have H4 := Lib.hid (show PS w0 b tb n t (.slice ad n cap) w4 from ⟨hs4, H3.out.rf.bk hk4⟩)
  clear hs4 hk4
  go_wp2_with fail
  go_ret
  exact ⟨rfl, H4.out⟩

/-- the calls that came in -/
def Acts (w : World) (v : Value) (L : Nat) (X : Nat → Int × Int) : Prop :=
  (L = 0 ∧ ∃ ad cap, v = .slice ad 0 cap) ∨ ∃ b off cap, v = .slice (some ⟨b, off, none⟩) L cap ∧ ∀ i, i < L →
    w.cell? ⟨b, off + i * 2, none⟩ = some (.int .i64 (X i).1) ∧ w.cell? ⟨b, off + i * 2 + 1, none⟩ = some (.int .i64 (X i).2) ∧ Wf (X i).2
theorem Acts.slice {w : World} {v : Value} {L : Nat} {X : Nat → Int × Int} (h : Acts w v L X) : ∃ ad cap, v = .slice ad L cap := by
  obtain ⟨rfl, ad, cap, rfl⟩ | ⟨b, off, cap, rfl, _⟩ := h
  · exact ⟨_, _, rfl⟩
  · exact ⟨_, _, rfl⟩
theorem Acts.at {w wr : World} {v : Value} {L : Nat} {X : Nat → Int × Int} (h : Acts w v L X) (hk : Kept No w wr) {j : Nat} (hj : j < L) :
    ∃ b off cap x y, v = .slice (some ⟨b, off, none⟩) L cap ∧ wr.cell? ⟨b, off + j * 2, none⟩ = some (.int .i64 x) ∧ wr.cell? ⟨b, off + j * 2 + 1, none⟩ = some (.int .i64 y) ∧ Wf y := by
  obtain ⟨h0, _⟩ | ⟨b, off, cap, hv, hc⟩ := h
  · omega
  · obtain ⟨c1, c2, c3⟩ := hc j hj
    exact ⟨b, off, cap, _, _, hv, hk.cell c1 (not_no _), hk.cell c2 (not_no _), c3⟩
theorem plays_few (a : Int) (L : Nat) (ad : Option Addr) (cap : Nat) (w : World) (hl : Laid w) (h : 100 < L ∨ (200 < a ∧ a ≤ 4096)) : Calls Tryd.prog 5 #[.int .i64 a, .slice ad L cap] w fun e w' => e = .returned (.bool true) ∧ Kept No w w' := by
  have HL := Lib.hid hl
  clear hl
  by_cases h1 : 100 < L
  · have d1 : decide ((100 : Int) < (L : Int)) = true := by simp; omega
    clear h
    go_enter Tryd.func5, Tryd.ntmps5
    go_wp2_with fail
    refine (known_any _ HL.out).mono ?_
    rintro e w' ⟨rfl, hk⟩
    have HK := Lib.hid hk
    clear hk
    go_wp2_with fail
    go_ret
    exact ⟨rfl, HK.out⟩
  · obtain ⟨h2, h3⟩ : 200 < a ∧ a ≤ 4096 := by omega
    have d1 : decide ((100 : Int) < (L : Int)) = false := by simp; omega
    clear h h1
    go_enter Tryd.func5, Tryd.ntmps5
    go_wp2_with fail
    refine (known_any _ HL.out).mono ?_
    rintro e w' ⟨rfl, hk⟩
    have HK := Lib.hid hk
    clear hk
    go_wp2_with fail
    go_ret
    exact ⟨rfl, HK.out⟩
theorem plays_bad (a : Int) (L : Nat) (ad : Option Addr) (cap : Nat) (w : World) (hl : Laid w) (h3 : L ≤ 100) (h : a < 1 ∨ 4096 < a) : Calls Tryd.prog 5 #[.int .i64 a, .slice ad L cap] w fun e w' => e = .returned (.bool true) ∧ Kept No w w' := by
  have d1 : decide ((100 : Int) < (L : Int)) = false := by simp; omega
  have hc : ∃ c : Bool, decide (200 < a) = c ∧ ((c = true ∧ decide (a ≤ 4096) = false) ∨ c = false) := by
    by_cases e : 200 < a
    · exact ⟨true, by simp [e], .inl ⟨rfl, by simp; omega⟩⟩
    · exact ⟨false, by simp [e], .inr rfl⟩
  have HL := Lib.hid hl
  have HB := Lib.hid h
  clear hl h
  obtain ⟨c, hc1, ⟨rfl, hc2⟩ | rfl⟩ := hc
  · go_enter Tryd.func5, Tryd.ntmps5
    go_wp2_with fail
    refine (new_bad a _ HB.out).mono ?_
    rintro e w' ⟨rfl, rfl⟩
    go_wp2_with fail
    refine (rnew_bad a _ HB.out).mono ?_
    rintro e w' ⟨rfl, rfl⟩
    go_wp2_with fail
    refine (known_any _ HL.out).mono ?_
    rintro e w' ⟨rfl, hk⟩
    have HK := Lib.hid hk
    clear hk
    go_wp2_with fail
    go_ret
    exact ⟨rfl, HK.out⟩
  · go_enter Tryd.func5, Tryd.ntmps5
    go_wp2_with fail
    refine (new_bad a _ HB.out).mono ?_
    rintro e w' ⟨rfl, rfl⟩
    go_wp2_with fail
    refine (rnew_bad a _ HB.out).mono ?_
    rintro e w' ⟨rfl, rfl⟩
    go_wp2_with fail
    refine (known_any _ HL.out).mono ?_
    rintro e w' ⟨rfl, hk⟩
    have HK := Lib.hid hk
    clear hk
    go_wp2_with fail
    go_ret
    exact ⟨rfl, HK.out⟩
/-- the loop's state: the pointer, the reference's ids, the place -/
def PlRel (w : World) (n L : Nat) (p v i : Value) (wr : World) : Prop := ∃ (j b tb : Nat) (t : Nat → Bool), i = .int .i64 (j : Nat) ∧ j ≤ L ∧ p = .pointer (some ⟨b, 0, none⟩) ∧ PS w b tb n t v wr
set_option maxRecDepth 100000 in
set_option maxHeartbeats 3200000 in
theorem plays_ok (n L : Nat) (v : Value) (X : Nat → Int × Int) (w : World) (hl : Laid w) (h1 : 1 ≤ n) (h2 : n ≤ 200) (h3 : L ≤ 100) (harg : Acts w v L X) : Calls Tryd.prog 5 #[.int .i64 (n : Nat), v] w fun e w' => e = .returned (.bool true) ∧ Kept No w w' := by
  obtain ⟨ad, cap, rfl⟩ := harg.slice
  have HL := Lib.hid hl
  have HA := Lib.hid harg
  have d1 : decide ((100 : Int) < (L : Int)) = false := by simp; omega
  have d2 : decide ((200 : Int) < (n : Int)) = false := by simp; omega
  clear hl harg
  go_enter Tryd.func5, Tryd.ntmps5
  go_wp2_with fail
  refine (st_new w _ (Kept.refl No w) n h1 (by omega)).mono ?_
  rintro e w1 ⟨b, tb, rfl, hs, -, -⟩
  have HS := Lib.hid hs
  clear hs
  go_wp2_with fail
  refine (rnew_ok n _ h1 (by omega)).mono ?_
  rintro e w2 ⟨v2, rfl, hr, hk⟩
  obtain ⟨ad2, cap2, rfl⟩ := rd_slice hr
  have HP := Lib.hid (show PS w b tb n (fun _ => false) (.slice ad2 n cap2) w2 from ⟨HS.out.no hk, Rd.mono hr (fun i _ e => by have := HS.out.ids.lt; omega)⟩)
  clear hr hk
  go_wp2_with fail
  go_loopw [5, 7, 49] (fun p v i wr => PlRel w n L p v i wr) (fun _ _ i _ => L - (intOf i).toNat)
  case atStart => exact ⟨0, b, tb, _, rfl, Nat.zero_le _, rfl, HP.out⟩
  case round =>
    obtain ⟨j, b3, tb3, t3, rfl, hj, rfl, hp3⟩ := hrel
    obtain ⟨ad3, cap3, rfl⟩ := rd_slice hp3.rf
    have HP3 := Lib.hid hp3
    have HJ := Lib.hid hj
    have hjL : (j : Int) ≤ 100 := by omega
    clear hp3 HP HS hj
    by_cases hlt : j < L
    · have d3 : decide (j < L) = true := by simp; exact hlt
      obtain ⟨ab, off, cap', x, y, hv, g1, g2, hwy⟩ := HA.out.at HP3.out.st.kept hlt
      cases hv
      have HLT := Lib.hid hlt
      have hjn : (0 : Int) ≤ (j : Int) := by omega
      have hjl : (j : Int) < (L : Int) := by omega
      clear hlt
      go_wp2_with fail
      refine (do_any (HP3.out.no ((Kept.refl No wr).alloc _)) HL.out x y).mono ?_
      rintro e w4 ⟨b4, tb4, t4, v4, rfl, hp4⟩
      obtain ⟨ad4, cap4, rfl⟩ := rd_slice hp4.rf
      have HP4 := Lib.hid hp4
      clear hp4 g1 g2
      go_wp2_with fail
      refine (looks_any HP4.out).mono ?_
      rintro e w5 ⟨rfl, hp5⟩
      have HP5 := Lib.hid hp5
      clear hp5
      go_wp2_with fail
      have q1 := HLT.out
      exact ⟨⟨j + 1, b4, tb4, t4, by go_num, by omega, rfl, HP5.out⟩, by simp [intOf]; omega⟩
    · obtain rfl : j = L := by have := HJ.out; omega
      have d3 : decide (j < j) = false := by simp
      clear hlt
      go_wp2_with fail
      refine (known_any _ (HP3.out.st.laid HL.out)).mono ?_
      rintro e w' ⟨rfl, hk⟩
      have HK := Lib.hid hk
      clear hk
      go_wp2_with fail
      go_ret
      exact ⟨rfl, HP3.out.st.kept.and HK.out⟩
end Go.Proofs.YtkdienebinnopaaDoor
