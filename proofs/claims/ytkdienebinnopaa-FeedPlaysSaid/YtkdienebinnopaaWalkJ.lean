/-
  looks: a feed looks like the reference's; what it hands out is changed afterwards.
-/
import Derived.Test.YtkdienebinnopaaWalkI
namespace Go.Proofs.Ytkdienebinnopaa
open Go.RowKit Go.Zn

/-- bytes that may be changed -/
def MRow (w : World) (base : Nat) (v : Value) : Prop :=
  v = .slice none 0 0 ∨ ∃ d len cap c, v = .slice (some ⟨d, 0, none⟩) len cap ∧ base ≤ d ∧ w.heap[d]? = some (.cells c 5 (0, 0)) ∧ len ≤ maxLen ∧ ∀ j, j < len → ∃ x : Int, c[j]? = some (.int .u8 x)
/-- events that may be changed -/
def MEv (w : World) (base : Nat) (v : Value) (n : Nat) : Prop :=
  (v = .slice none 0 0 ∧ n = 0) ∨ ∃ g cap cur, v = .slice (some ⟨g, 0, none⟩) n cap ∧ base ≤ g ∧ w.heap[g]? = some (.cells cur 40 (0, 0)) ∧ ∀ i, i < n → ∃ (x : Int) (d : Value), cur[2 * i]? = some (.int .u32 x) ∧ cur[2 * i + 1]? = some d ∧ MRow w base d
theorem mrow_of {w : World} {base : Nat} {v : Value} {n : Nat} {l : List UInt8} (h : w.ownsRow base 5 1 v n (bts l)) : MRow w base v := by
  obtain ⟨hl, ⟨hv, hn⟩ | ⟨g, cap, cur, hv, hg, hh, hnc, hcm, hcs, hx⟩⟩ := h
  · exact .inl hv
  · refine .inr ⟨g, n, cap, cur, hv, hg, hh, by omega, fun j hj => ?_⟩
    have h1 : (bts l)[j]? = cur[j]? := by rw [← hx, List.getElem?_take, if_pos (by omega)]; simp
    have h2 : j < l.length := by simp at hl; omega
    rw [← h1, bts_get, List.getElem?_eq_getElem h2]
    exact ⟨_, rfl⟩
theorem mev_of {w : World} {base : Nat} {v : Value} {l : List (Nat × List UInt8)} (h : EvsOwn w base v l) : MEv w base v l.length := by
  obtain ⟨ds, hds, hrow, hd⟩ := h
  obtain ⟨hl, ⟨hv, hn⟩ | ⟨g, cap, cur, hv, hg, hh, hnc, hcm, hcs, hx⟩⟩ := hrow
  · exact .inl ⟨hv, hn⟩
  · refine .inr ⟨g, cap, cur, hv, hg, hh, fun i hi => ?_⟩
    have e1 := List.getElem?_eq_getElem hi
    have e2 := List.getElem?_eq_getElem (show i < ds.length by omega)
    obtain ⟨g1, g2⟩ := evc_get l ds i _ _ e1 e2
    have h1 : ∀ j, j < l.length * 2 → (evc l ds)[j]? = cur[j]? := fun j hj => by rw [← hx, List.getElem?_take, if_pos hj]; simp
    rw [h1 _ (by omega)] at g1 g2
    exact ⟨_, _, g1, g2, mrow_of (hd i _ _ e1 e2)⟩
theorem MRow.kept {S : Nat → Prop} {w w' : World} {base : Nat} {v : Value} (h : MRow w base v) (hk : Kept S w w') (hS : ∀ d c, S d → w.heap[d]? = some (.cells c 5 (0, 0)) → False) : MRow w' base v := by
  rcases h with h | ⟨d, len, cap, c, hv, hd, hh, hlm, hx⟩
  · exact .inl h
  · exact .inr ⟨d, len, cap, c, hv, hd, hk.obj hh (fun e => hS d c e hh), hlm, hx⟩
/-- a byte is stored -/
theorem MRow.store {w : World} {base : Nat} {v : Value} (h : MRow w base v) (d j : Nat) (y : Int) : MRow (w.setCell ⟨d, j, none⟩ (.int .u8 y)) base v := by
  rcases h with h | ⟨d', len, cap, c, hv, hd, hh, hlm, hx⟩
  · exact .inl h
  · by_cases e : d' = d
    · subst e
      refine .inr ⟨d', len, cap, _, hv, hd, obj_store hh j _, hlm, fun i hi => ?_⟩
      obtain ⟨x, hx'⟩ := hx i hi
      by_cases e : j = i
      · subst e
        refine ⟨y, ?_⟩
        rw [Array.getElem?_setIfInBounds_self_of_lt (Array.getElem?_eq_some_iff.1 hx').1]
      · exact ⟨x, by rw [Array.getElem?_setIfInBounds_ne e]; exact hx'⟩
    · exact .inr ⟨d', len, cap, c, hv, hd, obj_setCell hh _ e, hlm, hx⟩
theorem MEv.byte {w : World} {base : Nat} {v : Value} {n : Nat} (h : MEv w base v n) {d : Nat} {c : Array Value} (hd : w.heap[d]? = some (.cells c 5 (0, 0))) (j : Nat) (y : Int) : MEv (w.setCell ⟨d, j, none⟩ (.int .u8 y)) base v n := by
  rcases h with h | ⟨g, cap, cur, hv, hg, hh, hx⟩
  · exact .inl h
  · refine .inr ⟨g, cap, cur, hv, hg, obj_setCell hh _ (fun e => by have e' : g = d := e; subst e'; rw [hd] at hh; cases hh), fun i hi => ?_⟩
    obtain ⟨x, dv, h1, h2, h3⟩ := hx i hi
    exact ⟨x, dv, h1, h2, h3.store d j y⟩
theorem MEv.number {w : World} {base : Nat} {g n cap : Nat} (h : MEv w base (.slice (some ⟨g, 0, none⟩) n cap) n) (i : Nat) (y : Int) : MEv (w.setCell ⟨g, i * 2, none⟩ (.int .u32 y)) base (.slice (some ⟨g, 0, none⟩) n cap) n := by
  rcases h with h | ⟨g', cap', cur, hv, hg, hh, hx⟩
  · cases h.1
  · cases hv
    refine .inr ⟨g, cap, _, rfl, hg, obj_store hh (i * 2) _, fun j hj => ?_⟩
    obtain ⟨x, dv, h1, h2, h3⟩ := hx j hj
    have hd : MRow (w.setCell ⟨g, i * 2, none⟩ (.int .u32 y)) base dv := h3.kept (S := fun k => k = g) ((Kept.refl (fun k => k = g) w).setCell (p := ⟨g, i * 2, none⟩) (fun _ => rfl) _) (fun d c e hd => by subst e; rw [hh] at hd; cases hd)
    by_cases e : i = j
    · subst e
      refine ⟨y, dv, ?_, ?_, hd⟩
      · rw [Nat.mul_comm i 2, Array.getElem?_setIfInBounds_self_of_lt (Array.getElem?_eq_some_iff.1 h1).1]
      · rw [Array.getElem?_setIfInBounds_ne (by omega)]; exact h2
    · refine ⟨x, dv, ?_, ?_, hd⟩
      · rw [Array.getElem?_setIfInBounds_ne (by omega)]; exact h1
      · rw [Array.getElem?_setIfInBounds_ne (by omega)]; exact h2
theorem MEv.at {w : World} {base : Nat} {ad : Option Addr} {n cap : Nat} (h : MEv w base (.slice ad n cap) n) {i : Nat} (hi : i < n) :
    ∃ (g : Nat) (x : Int) (d : Value), ad = some ⟨g, 0, none⟩ ∧ base ≤ g ∧ w.cell? ⟨g, i * 2, none⟩ = some (.int .u32 x) ∧ w.cell? ⟨g, i * 2 + 1, none⟩ = some d ∧ MRow w base d ∧ (∀ j, w.frozen? ⟨g, j, none⟩ = false) ∧ ∃ cur, w.heap[g]? = some (.cells cur 40 (0, 0)) := by
  rcases h with h | ⟨g, cap', cur, hv, hg, hh, hx⟩
  · omega
  · cases hv
    obtain ⟨x, dv, h1, h2, h3⟩ := hx i hi
    refine ⟨g, x, dv, rfl, hg, ?_, ?_, h3, fun j => obj_free hh j, cur, hh⟩
    · rw [obj_cell hh, Nat.mul_comm i 2]; exact h1
    · rw [obj_cell hh, Nat.mul_comm i 2]; exact h2
theorem MEv.slice {w : World} {base : Nat} {v : Value} {n : Nat} (h : MEv w base v n) : ∃ ad cap, v = .slice ad n cap := by
  rcases h with ⟨h, h0⟩ | ⟨g, cap', cur, hv, _⟩
  · subst h0; exact ⟨_, _, h⟩
  · exact ⟨_, _, hv⟩

theorem MRow.slice {w : World} {base : Nat} {v : Value} (h : MRow w base v) : ∃ ad len cap, v = .slice ad len cap := by
  rcases h with h | ⟨d, len, cap, c, hv, _⟩
  · exact ⟨_, _, _, h⟩
  · exact ⟨_, _, _, hv⟩
theorem MRow.len_le {w : World} {base : Nat} {ad : Option Addr} {len cap : Nat} (h : MRow w base (.slice ad len cap)) : len ≤ maxLen := by
  rcases h with h | ⟨d, len', cap', c, hv, hd, hh, hlm, hx⟩
  · cases h; simp [maxLen]
  · cases hv; exact hlm
theorem MRow.at {w : World} {base : Nat} {ad : Option Addr} {len cap : Nat} (h : MRow w base (.slice ad len cap)) {j : Nat} (hj : j < len) :
    ∃ (d : Nat) (c : Array Value) (x : Int), ad = some ⟨d, 0, none⟩ ∧ base ≤ d ∧ w.heap[d]? = some (.cells c 5 (0, 0)) ∧ w.cell? ⟨d, j, none⟩ = some (.int .u8 x) := by
  rcases h with h | ⟨d, len', cap', c, hv, hd, hh, hlm, hx⟩
  · cases h; omega
  · cases hv
    obtain ⟨x, hx'⟩ := hx j hj
    exact ⟨d, c, x, rfl, hd, hh, by rw [obj_cell hh]; exact hx'⟩
def LooksI (w0 : World) (base : Nat) (v : Value) (n : Nat) (wr : World) : Prop := MEv wr base v n ∧ Kept No w0 wr
def LooksK (w0 : World) (base : Nat) (v : Value) (n g i : Nat) (d : Value) (len : Nat) (kv : Value) (wr : World) : Prop := ∃ j : Nat, kv = .int .i64 j ∧ j ≤ len ∧ LooksI w0 base v n wr ∧ wr.cell? ⟨g, i * 2 + 1, none⟩ = some d ∧ MRow wr base d

theorem firstOf_from (s : FS) (h : s.f ≤ s.n) (h1 : 1 ≤ s.f) : firstOf (s.from 0) = rangeFirst s.f s.n := by
  unfold FS.from
  rw [Nat.zero_max]
  by_cases e : s.f = s.n
  · simp [e, rangeFirst, firstOf]
  · obtain ⟨m, hm⟩ : ∃ m, s.n - s.f = m + 1 := ⟨s.n - s.f - 1, by omega⟩
    rw [hm]
    simp [List.range'_succ, firstOf, rangeFirst, e]
set_option maxRecDepth 100000 in
set_option maxHeartbeats 3200000 in
theorem looks_ok {w : World} {b rb : Nat} {s : FS} (h : FOk w b rb s) {C : Nat → Prop} {most : Int} {kv : Value} (hkv : REv w C kv (s.from 0)) :
    Calls Try.prog 10 #[.pointer (some ⟨b, 0, none⟩), refV most kv (s.n - 1) s.a s.l] w fun e w' => e = .returned (.bool true) ∧ Kept No w w' := by
  obtain ⟨ad, cap, rfl⟩ := hkv.slice
  generalize hm : (s.from 0).length = m
  have hml : m ≤ 1000 := by
    rw [← hm]; simp only [FS.from, List.length_map, List.length_range']; have := h.1.nk; have := h.1.k2; omega
  have H := Lib.hid h
  have HV := Lib.hid hkv
  have HM := Lib.hid hm
  have hn1 := h.1.fn
  have hn2 := h.1.f1
  generalize hl1 : s.n - 1 = last
  have HL1 := Lib.hid hl1
  have HFO := Lib.hid (firstOf_from s hn1 hn2)
  have HN12 := Lib.hid (And.intro hn1 hn2)
  clear h hkv hm hn1 hn2 hl1
  unfold refV
  go_enter Try.func10, Try.ntmps10
  go_wp2_with fail
  obtain ⟨w1, hw1⟩ : ∃ w1, w.alloc (.cells #[.int .i64 most, .slice ad m cap, .int .u32 (last : Nat), .int .u32 (s.a : Nat), .int .u32 (s.l : Nat)] 31) = w1 := ⟨_, rfl⟩
  have hk1 : Kept No w w1 := by rw [← hw1]; exact (Kept.refl No w).alloc _
  have hs1 : w.heap.size + 1 = w1.heap.size := by rw [← hw1]; simp
  have hb1 : w1.heap[w.heap.size]? = some (.cells #[.int .i64 most, .slice ad m cap, .int .u32 (last : Nat), .int .u32 (s.a : Nat), .int .u32 (s.l : Nat)] 31 (0, 0)) := by rw [← hw1]; exact heap_alloc_new w _
  rw [hw1]
  have hvm := HV.out
  rw [HM.out] at hvm
  have hc := rrange_any w1 C most (.slice ad m cap) last s.a s.l (s.from 0) (hvm.kept hk1 (fun _ _ _ => not_no _)) (by rw [HM.out]; omega)
  unfold refV at hc
  refine hc.mono ?_
  rintro e w2 ⟨rfl, hk2⟩
  generalize hfi : firstOf (s.from 0) = fi
  have HFI := Lib.hid hfi
  have HK2 := Lib.hid (hk1.and hk2)
  have HB2 := Lib.hid (hk2.obj hb1 (not_no _))
  have HVM := Lib.hid hvm
  clear hw1 hk1 hs1 hb1 hvm hc hk2 hfi
  go_wp2_with fail
  have hc2 := since_any b rb s.k s.f s.n s.a s.l 0 s.dat w2 (H.out.no HK2.out).1 (by omega)
  refine hc2.mono ?_
  rintro e w3 ⟨v3, rfl, hev, hk3⟩
  have hlen3 : ((List.range' (max 0 s.f) (s.n - max 0 s.f)).map fun m => (m, s.dat m)).length = m := HM.out
  obtain ⟨ad3, cap3, hv3⟩ := hev.rd.slice
  rw [hlen3] at hv3
  subst hv3
  have hbox3 := hk3.obj HB2.out (not_no _)
  have hcb3 : w3.cell? ⟨w.heap.size, 1, none⟩ = some (.slice ad m cap) := obj_cell hbox3 1
  have HEV := Lib.hid hev
  have HK3 := Lib.hid (HK2.out.and hk3)
  have HB3 := Lib.hid hbox3
  have HL3 := Lib.hid hlen3
  have hsz : w.heap.size < w2.heap.size := obj_lt HB2.out
  have HSZ := Lib.hid hsz
  have hk30 := Lib.hid hk3
  clear hev hk3 hbox3 hlen3 hc2 hsz
  go_wp2_with fail
  refine (same_any _ _ C _ _ (s.from 0) HEV.out.rd (HVM.out.kept HK3.out (fun _ _ _ => not_no _)) (by rw [HM.out]; omega)).mono ?_
  rintro e w4 ⟨rfl, q, rfl⟩
  have hmev : MEv (w3.drewN q) (w2.heap.size + 3) (.slice ad3 m cap3) m := by
    have := mev_of HEV.out
    rw [HL3.out] at this
    exact this
  have HME := Lib.hid hmev
  clear hmev hcb3
  go_wp2_with fail
  go_loopw [9, 10] (fun i _ wr => ∃ j : Nat, i = .int .i64 j ∧ j ≤ m ∧ LooksI w2 (w2.heap.size + 3) (.slice ad3 m cap3) m wr) (fun i _ _ => m - (intOf i).toNat)
  case atStart => exact ⟨0, rfl, Nat.zero_le _, HME.out, hk30.out.drewN _⟩
  case round =>
    obtain ⟨i, rfl, hi, hI⟩ := hrel
    by_cases hlt : i < m
    · have hd : decide (i < m) = true := by simp; exact hlt
      obtain ⟨g, x, d, rfl, hgb, hc1, hc2, hmr, hfz, cur, hcur⟩ := hI.1.at hlt
      have hi0 : (0 : Int) ≤ (i : Int) := by omega
      have hi1 : (i : Int) < (m : Int) := by omega
      obtain ⟨dd, len, dc, rfl⟩ := hmr.slice
      have HI := Lib.hid hI
      have HMR := Lib.hid hmr
      have HLT := Lib.hid hlt
      have HC2 := Lib.hid hc2
      have hmaxl : (len : Int) ≤ 9223372036854775807 := by have := hmr.len_le; unfold maxLen at this; omega
      clear hI hmr hlt hi hcur
      go_wp2_with fail
      go_loopw [10] (fun k wr' => LooksK w2 (w2.heap.size + 3) (.slice (some ⟨g, 0, none⟩) m cap3) m g i (.slice dd len dc) len k wr') (fun k _ => len - (intOf k).toNat)
      case atStart => exact ⟨0, rfl, Nat.zero_le _, HI.out, HC2.out, HMR.out⟩
      case round =>
        obtain ⟨j, rfl, hj, hI', hc2', hmr'⟩ := hrel
        clear hc2
        by_cases hjl : j < len
        · have hd2 : decide (j < len) = true := by simp; exact hjl
          obtain ⟨dk, c, xb, rfl, hdb, hdh, hdc⟩ := hmr'.at hjl
          have hfr := obj_free hdh j
          have hj0 : (0 : Int) ≤ (j : Int) := by omega
          have hj1 : (j : Int) < (len : Int) := by omega
          have HI' := Lib.hid hI'
          have HMR' := Lib.hid hmr'
          have HJL := Lib.hid hjl
          have HDH := Lib.hid hdh
          have HC2' := Lib.hid hc2'
          clear hI' hmr' hjl hdh hj
          go_wp2_with fail
          have e1 : (j : Int) + 1 = ((j + 1 : Nat) : Int) := by omega
          refine ⟨⟨j + 1, by rw [e1], HJL.out, ⟨HI'.out.1.byte HDH.out j _, HI'.out.2.setCell (p := ⟨dk, j, none⟩) (fun (hlt : dk < w2.heap.size) => by omega) _⟩, ?_, HMR'.out.store dk j _⟩, by have := HJL.out; simp [intOf]; omega⟩
          have hne : dk ≠ g := by
            rintro rfl
            obtain ⟨_, _, _, e0, _, _, _, _, _, cur, hcur⟩ := HI'.out.1.at HLT.out
            cases e0
            rw [HDH.out] at hcur
            cases hcur
          exact ((Kept.refl (fun k => k = dk) wr).setCell (p := ⟨dk, j, none⟩) (fun _ => rfl) _).cell HC2'.out (fun e => hne e.symm)
        · have hd2 : decide (j < len) = false := by simp; omega
          have HI' := Lib.hid hI'
          have HMR' := Lib.hid hmr'
          have HC2' := Lib.hid hc2'
          obtain ⟨g', x', d', e0, _, hc1', _, _, hfz', cur', hcur'⟩ := hI'.1.at HLT.out
          cases e0
          have hf0 := hfz' (i * 2)
          clear hI' hmr' hjl hj hfz' hcur' hc1 hfz
          go_wp2_with fail
          refine ⟨⟨i + 1, by go_num, HLT.out, HI'.out.1.number i _, HI'.out.2.setCell (p := ⟨g, i * 2, none⟩) (fun (hlt : g < w2.heap.size) => by omega) _⟩, by have := HLT.out; simp [intOf]; omega⟩
    · have hd : decide (i < m) = false := by simp; omega
      have hf4 := H.out.no (HK2.out.and hI.2)
      have hb4 := hI.2.obj HB2.out (not_no _)
      have b3 : wr.cell? ⟨w.heap.size, 3, none⟩ = some (.int .u32 (s.a : Nat)) := obj_cell hb4 3
      have b4 : wr.cell? ⟨w.heap.size, 4, none⟩ = some (.int .u32 (s.l : Nat)) := obj_cell hb4 4
      have hx : ((fi : Nat) : Int) = (rangeFirst s.f s.n : Nat) := by rw [← HFO.out, HFI.out]
      have hy : ((last : Nat) : Int) = (s.n : Int) - 1 := by have := HL1.out; have := HN12.out; omega
      have hn0 : 0 < s.n := by have := HN12.out; omega
      have c2 := hf4.1.hf.c2
      have c3 := hf4.1.hf.c3
      have c4 := hf4.1.hf.c4
      have HF4 := Lib.hid hf4
      have HI4 := Lib.hid hI
      have HX := Lib.hid hx
      have HY := Lib.hid hy
      clear hf4 hI hb4 hlt hi hx hy
      go_wp2_with fail
      go_quiet (first
        | (go_at_call 12; exact Calls.quiet_of (ranges_ok (HF4.out.no ((Kept.refl No wr).drewN _)) _ _ HX.out HY.out))
        | (go_at_call 18; exact Calls.quiet_of_same ((acked_any b s.n s.a (wr.drewN _) c2 c3 hn0).mono fun _ _ ⟨a, b⟩ => ⟨a, b.symm⟩))
        | (go_at_call 13; exact Calls.quiet_of_same ((lost_any b s.n s.l (wr.drewN _) c2 c4 hn0).mono fun _ _ ⟨a, b⟩ => ⟨a, b.symm⟩)))
      go_wp2_with fail
      go_ret
      exact ⟨rfl, (HK2.out.and HI4.out.2).drewN _⟩
end Go.Proofs.Ytkdienebinnopaa
