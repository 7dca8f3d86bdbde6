/-
  FeedHolds answers true, whatever the number and the calls.
-/
import Derived.Test.YtkdienebinnopaaActs
import Derived.BigQuiet
import Derived.IntWalk
namespace Go.Proofs.Ytkdienebinnopaa
open Go.ChangeShapes Go.WideShapes Go.ChangeAt Go.RowKit Go.Zn Go.Deep

theorem Acts.keptS {S : Nat → Prop} {w w' : World} {v : Value} {len : Nat} {X : Nat → Int} {N : Nat → Nat} {BS : Nat → List UInt8} (h : Acts w v len X N BS) (hk : Kept S w w') (hS : ∀ i, i < w.heap.size → ¬ S i) : Acts w' v len X N BS := by
  obtain ⟨hm, h | ⟨b, off, cap, hv, h⟩⟩ := h
  · exact ⟨hm, .inl h⟩
  · refine ⟨hm, .inr ⟨b, off, cap, hv, fun i hi => ?_⟩⟩
    obtain ⟨d, h1, h2, h3, h4, h5⟩ := h i hi
    have hb := hS b (block_lt_of_cell h1)
    exact ⟨d, hk.cell h1 hb, hk.cell h2 hb, hk.cell h3 hb, h4.kept hk (fun b hb _ => hS b hb), h5⟩
/-- the call of one round, in a later world -/
theorem Acts.at2 {w : World} {ad : Option Addr} {len cap : Nat} {X : Nat → Int} {N : Nat → Nat} {BS : Nat → List UInt8} (h : Acts w (.slice ad len cap) len X N BS) {wr : World} (hk : Kept No w wr) {i : Nat} (hi : i < len) :
    ∃ (b off : Nat) (dd : Option Addr) (dc : Nat), ad = some ⟨b, off, none⟩ ∧ wr.cell? ⟨b, off + i * 3, none⟩ = some (.int .i64 (X i)) ∧ wr.cell? ⟨b, off + i * 3 + 1, none⟩ = some (.int .u32 (N i : Nat)) ∧ wr.cell? ⟨b, off + i * 3 + 2, none⟩ = some (.slice dd (BS i).length dc) ∧
      Rd wr (fun i => i < w.heap.size) 1 (.slice dd (BS i).length dc) (BS i).length (bts (BS i)) ∧ N i < 4294967296 := by
  obtain ⟨b, off, dd, dc, h0, h1, h2, h3, h4, h5⟩ := h.at hi
  exact ⟨b, off, dd, dc, h0, hk.cell h1 (not_no _), hk.cell h2 (not_no _), hk.cell h3 (not_no _), (h4.mono (fun b hb _ => hb)).kept hk (fun _ _ _ => not_no _), h5⟩
theorem add_m {w : World} {b rb : Nat} {s : FS} (h : FOk w b rb s) {mm : Nat} (hn : s.n = mm + 1) (hm : mm ≤ 1000) {B : Nat → Prop} {v : Value} {bs : List UInt8} {q : Nat} (hq : bs.length = q) (hv : Rd w B 1 v q (bts bs)) (hlen : q ≤ 65535) (hB : ∀ i, B i → i ≠ b ∧ i ≠ rb) :
    Calls Try.prog 16 #[.pointer (some ⟨b, 0, none⟩), v] w (AddsPost b rb (s.add bs) (.tuple #[.int .u32 ((mm : Int) + 1), .int .i64 0]) w) := by
  have := add_fs h (by omega) hq hv hlen hB
  rw [hn] at this
  exact this
theorem ackr_fs {w : World} {b rb : Nat} {s : FS} (h : FOk w b rb s) {x : Nat} (hx : s.n ≤ x) (hx2 : x < 4294967296) :
    Calls Try.prog 17 #[.pointer (some ⟨b, 0, none⟩), .int .u32 x] w fun e w' => e = .returned (.tuple #[.int .i64 0, .int .i64 3]) ∧ w = w' :=
  ack_range b rb s.k s.f s.n s.a s.l x s.dat w h.1 hx hx2
theorem ack_m {w : World} {b rb : Nat} {s : FS} (h : FOk w b rb s) {x an : Nat} (hx : x < s.n) (han : max s.f (x + 1) - s.f = an) :
    Calls Try.prog 17 #[.pointer (some ⟨b, 0, none⟩), .int .u32 x] w (AddsPost b rb (s.ack x) (.tuple #[.int .i64 an, .int .i64 0]) w) := by
  have := ack_fs h hx
  rw [han] at this
  exact this
theorem lost_fs {w : World} {b rb : Nat} {s : FS} (h : FOk w b rb s) {lo : Nat} (hlo : s.l = lo) : Calls Try.prog 13 #[.pointer (some ⟨b, 0, none⟩)] w fun e w' => e = .returned (.int .u32 lo) ∧ w = w' := by
  subst hlo
  exact lost_any b s.n s.l w h.1.hf.c2 h.1.hf.c4 (by have := h.1.fn; have := h.1.f1; omega)
theorem acked_fs {w : World} {b rb : Nat} {s : FS} (h : FOk w b rb s) {a : Nat} (ha : s.a = a) : Calls Try.prog 18 #[.pointer (some ⟨b, 0, none⟩)] w fun e w' => e = .returned (.int .u32 a) ∧ w' = w := by
  subst ha
  exact (acked_any b s.n s.a w h.1.hf.c2 h.1.hf.c3 (by have := h.1.fn; have := h.1.f1; omega)).mono fun _ _ ⟨a, b⟩ => ⟨a, b.symm⟩
theorem since_fs {w : World} {b rb : Nat} {s : FS} (h : FOk w b rb s) {x : Nat} (hx : x < 4294967296) :
    Calls Try.prog 14 #[.pointer (some ⟨b, 0, none⟩), .int .u32 x] w (SincePost w (max x s.f) s.n s.dat) := since_any b rb s.k s.f s.n s.a s.l x s.dat w h.1 hx
theorem from_at {s : FS} {i : Nat} {e : Nat × List UInt8} (h : (s.from 0)[i]? = some e) : e.1 = s.f + i := by
  simp only [FS.from, List.getElem?_map, Nat.zero_max, Option.map_eq_some_iff] at h
  obtain ⟨m, h1, h2⟩ := h
  obtain ⟨h3, h4⟩ := List.getElem?_eq_some_iff.1 h1
  rw [List.getElem_range'] at h4
  rw [← h2, ← h4]
  simp
theorem from_len (s : FS) : (s.from 0).length = s.n - s.f := by simp [FS.from]
end Go.Proofs.Ytkdienebinnopaa
namespace Go.Proofs.Ytkdienebinnopaa.feedHolds
open Go.ChangeShapes Go.WideShapes Go.ChangeAt Go.RowKit Go.Zn Go.Deep
set_option linter.unusedVariables false

def HoldsT (s : FS) (k M R j : Nat) : Prop := s.n = M + 1 ∧ R + s.l + 1 = s.f ∧ s.k = k ∧ M ≤ j + 1
def HoldsK (w4 : World) (b rb : Nat) (s : FS) (C : Nat → Prop) (v : Value) (q : Nat) (kv : Value) (wr : World) : Prop := ∃ jj : Nat, kv = .int .i64 (jj : Nat) ∧ jj ≤ q ∧ FOk wr b rb s ∧ REv wr C v (s.from 0) ∧ Kept No w4 wr
def HoldsR (w : World) (b rb k len : Nat) (m r i : Value) (wr : World) : Prop :=
  ∃ (s : FS) (mm rd j : Nat), m = .int .u32 (mm : Nat) ∧ r = .int .i64 (rd : Nat) ∧ i = .int .i64 (j : Nat) ∧ s.n = mm + 1 ∧ rd + s.l + 1 = s.f ∧ s.k = k ∧ mm ≤ j ∧ j ≤ len ∧ FOk wr b rb s ∧ Kept No w wr
theorem walk_bad (k : Int) (v : Value) (w : World) (hk : k < 1 ∨ 1000 < k) :
    Calls Try.prog 5 #[.int .i64 k, v] w fun e w' => e = .returned (.bool true) ∧ Kept No w w' := by
  by_cases h1 : k < 1
  · have d1 : decide (k < 1) = true := by simp; exact h1
    clear hk h1
    go_enter Try.func5, Try.ntmps5
    go_wp2_with fail
    refine (known_ok _).mono ?_
    rintro e w2 ⟨rfl, hk⟩
    go_wp2_with fail
    go_ret
    exact ⟨rfl, hk⟩
  · have d1 : decide (k < 1) = false := by simp; omega
    have d2 : decide (1000 < k) = true := by simp; omega
    clear hk h1
    go_enter Try.func5, Try.ntmps5
    go_wp2_with fail
    refine (known_ok _).mono ?_
    rintro e w2 ⟨rfl, hk⟩
    go_wp2_with fail
    go_ret
    exact ⟨rfl, hk⟩
set_option maxRecDepth 100000 in
set_option maxHeartbeats 3200000 in
theorem walk_ok (k : Nat) (hk1 : 1 ≤ k) (hk2 : k ≤ 1000) {w : World} {v : Value} {len : Nat} {X : Nat → Int} {N : Nat → Nat} {BS : Nat → List UInt8} (h : Acts w v len X N BS) :
    Calls Try.prog 5 #[.int .i64 k, v] w fun e w' => e = .returned (.bool true) ∧ Kept No w w' := by
  obtain ⟨ad, cap, rfl⟩ := h.slice
  have d1 : decide ((k : Int) < 1) = false := by simp; omega
  have d2 : decide (1000 < (k : Int)) = false := by simp; omega
  have H := Lib.hid h
  have HK1 := Lib.hid hk1
  have HK2 := Lib.hid hk2
  clear h hk1 hk2
  go_enter Try.func5, Try.ntmps5
  go_wp2_with fail
  refine (few_any H.out).mono ?_
  rintro e w2 ⟨r, rfl, hr, rfl⟩
  cases r with
  | false =>
    clear hr
    go_wp2_with fail
    refine (known_ok _).mono ?_
    rintro e w2 ⟨rfl, hk⟩
    go_wp2_with fail
    go_ret
    exact ⟨rfl, hk⟩
  | true =>
    have HR := Lib.hid (hr rfl)
    clear hr
    go_wp2_with fail
    refine (new_fs k w HK1.out HK2.out).mono ?_
    rintro e w1 ⟨b, rb, rfl, hf1, hr1, hr2, hk1⟩
    have HF1 := Lib.hid hf1
    have HR1 := Lib.hid hr1
    have HR2 := Lib.hid hr2
    have HKW := Lib.hid hk1
    clear hf1 hr1 hr2 hk1
    go_wp2_with fail
    go_loopw [7, 8, 9] (fun m r i wr => HoldsR w b rb k len m r i wr) (fun m r i _ => len - (intOf i).toNat)
    case atStart => exact ⟨FS.init k, 0, 0, 0, rfl, rfl, rfl, rfl, rfl, rfl, Nat.le_refl _, Nat.zero_le _, HF1.out, HKW.out⟩
    case round =>
      obtain ⟨s, mm, rd, j, rfl, rfl, rfl, e1, e2, e3, h1, h2, hf, hk⟩ := hrel
      have E1 := Lib.hid e1
      have E2 := Lib.hid e2
      have E3 := Lib.hid e3
      have H1 := Lib.hid h1
      have H2 := Lib.hid h2
      have HF := Lib.hid hf
      have HKR := Lib.hid hk
      clear e1 e2 e3 h1 h2 hf hk
      by_cases hj : j < len
      · have dj : decide (j < len) = true := by simp; exact hj
        have hj0 : (0 : Int) ≤ (j : Int) := by omega
        have hjl : (j : Int) < (len : Int) := by omega
        have hl80 : (len : Int) ≤ 80 := by have := HR.out.1; omega
        have hm80 : (mm : Int) ≤ 80 := by have := H1.out; have := H2.out; have := HR.out.1; omega
        have hr80 : (rd : Int) ≤ 80 := by have := E1.out; have := E2.out; have := HF.out.1.fn; omega
        obtain ⟨ab, off, dd, dc, rfl, c0, c1, c2, hrd, hnj⟩ := H.out.at2 HKR.out hj
        have HJ := Lib.hid hj
        have HRD := Lib.hid hrd
        have HNJ := Lib.hid hnj
        have hbl := HR.out.2 j hj
        generalize hbe : (BS j).length = bl at *
        generalize hbx : BS j = bs at *
        generalize hnx : N j = nj at *
        generalize hxx : X j = xj at *
        have HBE := Lib.hid hbe
        clear hbe hbx hnx hxx hj hrd hnj
        have hst : xj = 0 ∨ xj = 1 ∨ (xj ≠ 0 ∧ xj ≠ 1) := by omega
        rcases hst with rfl | rfl | ⟨hx0, hx1⟩
        case' inl =>
          go_wp2_with fail
          refine (add_m (HF.out.no ((Kept.refl No wr).alloc _)) E1.out (by omega) HBE.out (HRD.out.alloc _) (by omega) (fun i hi => ⟨by have := HR1.out; have := HR2.out; omega, by have := HR1.out; omega⟩)).mono ?_
          rintro e w3 ⟨rfl, hf3, hk3⟩
          go_wp2_with fail
          obtain ⟨s', hs'⟩ : ∃ s', s.add bs = s' := ⟨_, rfl⟩
          obtain ⟨M, hM⟩ : ∃ M, mm + 1 = M := ⟨_, rfl⟩
          obtain ⟨R, hR⟩ : ∃ R : Nat, rd = R := ⟨_, rfl⟩
          have hRi : (rd : Int) = ((R : Nat) : Int) := by omega
          have hMi : (mm : Int) + 1 = ((M : Nat) : Int) := by omega
          rw [hs'] at hf3
          rw [hMi, hRi]
          have HF3 := Lib.hid hf3
          have HK3 : Hid (Kept No w w3) := (HKR.out.alloc _).new hk3 (fun i h => by have := HR1.out; have := HR2.out; rcases h with h | h <;> omega)
          have HT : Hid (HoldsT s' k M R j) := by
            have := E1.out; have := E2.out; have := E3.out; have := H1.out
            subst hs'
            subst hR
            refine ⟨by simp only [FS.add]; omega, ?_, E3.out, by omega⟩
            simp only [FS.add]; split <;> omega
          have hm81 : (M : Int) ≤ 81 := by omega
          have hr81 : (R : Int) ≤ 81 := by omega
          clear hs' hM hMi hf3 hk3 hR hRi
        case' inr.inl =>
          by_cases hnm : nj ≤ mm
          case' pos =>
            have dnm : decide (nj ≤ mm) = true := by simp; exact hnm
            have HNM := Lib.hid hnm
            clear hnm
            go_wp2_with fail
            have hlt := HF.out.lt
            have hbox : (wr.alloc (.cells #[.int .i64 1, .int .u32 (nj : Nat), .slice dd bl dc] 45)).cell? ⟨wr.heap.size, 1, none⟩ = some (.int .u32 (nj : Nat)) := obj_cell (heap_alloc_new wr _) 1
            obtain ⟨an, han⟩ : ∃ an, max s.f (nj + 1) - s.f = an := ⟨_, rfl⟩
            refine (ack_m (HF.out.no ((Kept.refl No wr).alloc _)) (by have := E1.out; have := HNM.out; omega) han).mono ?_
            rintro e w3 ⟨rfl, hf3, hk3⟩
            have hbox3 := hk3.cell hbox (fun h => by rcases h with h | h <;> omega)
            have han9 : (an : Int) ≤ 81 := by have := HNM.out; omega
            have HAN := Lib.hid han
            have HF3 := Lib.hid hf3
            have HK3 : Hid (Kept No w w3) := (HKR.out.alloc _).new hk3 (fun i h => by have := HR1.out; have := HR2.out; rcases h with h | h <;> omega)
            clear hbox hlt han hf3 hk3
            go_wp2_with fail
            obtain ⟨s', hs'⟩ : ∃ s', s.ack nj = s' := ⟨_, rfl⟩
            obtain ⟨M, hM⟩ : ∃ M : Nat, mm = M := ⟨_, rfl⟩
            obtain ⟨R, hR⟩ : ∃ R : Nat, rd + an = R := ⟨_, rfl⟩
            have hMi : (mm : Int) = ((M : Nat) : Int) := by omega
            have hRi : (rd : Int) + (an : Int) = ((R : Nat) : Int) := by omega
            have hm81 : (M : Int) ≤ 81 := by omega
            have hr81 : (R : Int) ≤ 81 := by have := E1.out; have := E2.out; have := HF.out.1.fn; have := HAN.out; have := HNM.out; omega
            have HT : Hid (HoldsT s' k M R j) := by
              have := E1.out; have := E2.out; have := E3.out; have := H1.out; have := HAN.out; have := HNM.out
              subst hs'
              subst hR
              exact ⟨by simp only [FS.ack]; omega, by simp only [FS.ack]; omega, E3.out, by omega⟩
            rw [hs'] at HF3
            rw [hRi, hMi]
            clear hs' hM hMi hR hRi
          case' neg =>
            have dnm : decide (nj ≤ mm) = false := by simp; omega
            have HNM := Lib.hid hnm
            clear hnm
            go_wp2_with fail
            obtain ⟨w3, hw3⟩ : ∃ w3, wr.alloc (.cells #[.int .i64 1, .int .u32 (nj : Nat), .slice dd bl dc] 45) = w3 := ⟨_, rfl⟩
            have hbox3 : w3.cell? ⟨wr.heap.size, 1, none⟩ = some (.int .u32 (nj : Nat)) := by rw [← hw3]; exact obj_cell (heap_alloc_new wr _) 1
            have HF3 : Hid (FOk w3 b rb s) := by rw [← hw3]; exact HF.out.no ((Kept.refl No wr).alloc _)
            have HK3 : Hid (Kept No w w3) := by rw [← hw3]; exact HKR.out.alloc _
            rw [hw3]
            clear hw3
            refine (ackr_fs HF3.out (by have := E1.out; have := HNM.out; omega) HNJ.out).mono ?_
            rintro e w3 ⟨rfl, rfl⟩
            go_wp2_with fail
            obtain ⟨s', hs'⟩ : ∃ s', s = s' := ⟨_, rfl⟩
            obtain ⟨M, hM⟩ : ∃ M : Nat, mm = M := ⟨_, rfl⟩
            obtain ⟨R, hR⟩ : ∃ R : Nat, rd = R := ⟨_, rfl⟩
            have hMi : (mm : Int) = ((M : Nat) : Int) := by omega
            have hRi : (rd : Int) = ((R : Nat) : Int) := by omega
            have hm81 : (M : Int) ≤ 81 := by omega
            have hr81 : (R : Int) ≤ 81 := by omega
            have HT : Hid (HoldsT s' k M R j) := by
              have := E1.out; have := E2.out; have := E3.out; have := H1.out
              subst hs'
              subst hR
              exact ⟨by omega, by omega, E3.out, by omega⟩
            rw [hs'] at HF3
            rw [hMi, hRi]
            clear hs' hM hMi hR hRi
        case' inr.inr =>
          have q0 : (xj == 0) = false := by simp; exact hx0
          have q1 : (xj == 1) = false := by simp; exact hx1
          clear hx0 hx1
          go_wp2_with fail
          obtain ⟨w3, hw3⟩ : ∃ w3, wr.alloc (.cells #[.int .i64 xj, .int .u32 (nj : Nat), .slice dd bl dc] 45) = w3 := ⟨_, rfl⟩
          have HF3 : Hid (FOk w3 b rb s) := by rw [← hw3]; exact HF.out.no ((Kept.refl No wr).alloc _)
          have HK3 : Hid (Kept No w w3) := by rw [← hw3]; exact HKR.out.alloc _
          rw [hw3]
          clear hw3
          obtain ⟨s', hs'⟩ : ∃ s', s = s' := ⟨_, rfl⟩
          obtain ⟨M, hM⟩ : ∃ M : Nat, mm = M := ⟨_, rfl⟩
          obtain ⟨R, hR⟩ : ∃ R : Nat, rd = R := ⟨_, rfl⟩
          have hMi : (mm : Int) = ((M : Nat) : Int) := by omega
          have hRi : (rd : Int) = ((R : Nat) : Int) := by omega
          have hm81 : (M : Int) ≤ 81 := by omega
          have hr81 : (R : Int) ≤ 81 := by omega
          have HT : Hid (HoldsT s' k M R j) := by
            have := E1.out; have := E2.out; have := E3.out; have := H1.out
            subst hs'
            subst hR
            exact ⟨by omega, by omega, E3.out, by omega⟩
          rw [hs'] at HF3
          rw [hMi, hRi]
          clear hs' hM hMi hR hRi
        all_goals
          refine (since_fs HF3.out (by decide)).mono ?_
          rintro e w4 ⟨v4, rfl, hev, hk4⟩
          obtain ⟨ad4, cap4, hv4⟩ := hev.rd.slice
          have hrd4 : REv w4 (fun i => w3.heap.size ≤ i) v4 (s'.from 0) := hev.rd.mono (fun b _ h => by omega)
          have hlq : ((List.range' (max 0 s'.f) (s'.n - max 0 s'.f)).map fun m => (m, s'.dat m)).length = s'.n - s'.f := from_len s'
          rw [hlq] at hv4
          obtain ⟨q, hq⟩ : ∃ q, s'.n - s'.f = q := ⟨_, rfl⟩
          obtain ⟨lo, hlo⟩ : ∃ lo, s'.l = lo := ⟨_, rfl⟩
          rw [hq] at hv4
          subst hv4
          have HRV := Lib.hid hrd4
          have HK4 := Lib.hid hk4
          have HF4 := Lib.hid (HF3.out.no hk4)
          have HLO := Lib.hid hlo
          have HQ := Lib.hid hq
          have hqk : ¬ k < q := by have := HT.out.2.2.1; have := HF3.out.1.nk; omega
          have dqk : decide (k < q) = false := by simp; omega
          have hsum : (M : Int) = (q : Int) + (R : Int) + (lo : Int) := by obtain ⟨t1, t2, t3, t4⟩ := HT.out; have := HF3.out.1.fn; omega
          have HS := Lib.hid hsum
          have hq9 : (q : Int) ≤ 1000 := by have := HK2.out; omega
          have hl9 : (lo : Int) ≤ 81 := by omega
          have dsum : ((M : Int) != (q : Int) + (R : Int) + (lo : Int)) = false := by simp; exact hsum
          clear hev hrd4 hk4 hlq hlo hq hsum hqk
          go_wp2_with (go_at_call 13; refine (lost_fs HF4.out HLO.out).mono ?_; rintro e w5 ⟨rfl, rfl⟩)
          obtain ⟨ac, hac⟩ : ∃ ac, s'.a = ac := ⟨_, rfl⟩
          obtain ⟨F, hF⟩ : ∃ F, s'.f = F := ⟨_, rfl⟩
          have HAC := Lib.hid hac
          have HFF := Lib.hid hF
          clear hac hF
          go_loopw [17] (fun kv wq => HoldsK w4 b rb s' (fun i => w3.heap.size ≤ i) (.slice ad4 q cap4) q kv wq) (fun kv _ => q - (intOf kv).toNat)
          case atStart => exact ⟨0, rfl, Nat.zero_le _, HF4.out, HRV.out, Kept.refl _ _⟩
          case round =>
            rename World => wq
            obtain ⟨jj, rfl, hjq, hf5, hrv5, hk5⟩ := hrel
            have HF5 := Lib.hid hf5
            have HRV5 := Lib.hid hrv5
            have HK5 := Lib.hid hk5
            have HJQ := Lib.hid hjq
            clear hf5 hrv5 hk5 hjq
            by_cases hlt : jj < q
            · have dlt : decide (jj < q) = true := by simp; exact hlt
              obtain ⟨eb, eo, ev, ed, edc, rfl, hle, ec1, _, _⟩ := HRV5.out.at (i := jj) (by rw [from_len, HQ.out]; exact hlt)
              have hnum := from_at hle
              obtain ⟨nb, hnb⟩ : ∃ nb : Int, ((ev.1 : Nat) : Int) = nb := ⟨_, rfl⟩
              rw [hnb] at ec1
              have hnb2 : nb = (F : Int) + (jj : Int) := by rw [← hnb, hnum, HFF.out]; omega
              have hMF : (M : Int) + 1 = (F : Int) + (q : Int) := by obtain ⟨t1, t2, t3, t4⟩ := HT.out; have := HF5.out.1.fn; have := HQ.out; have := HFF.out; omega
              have hlow : ¬ nb ≤ (ac : Int) := by have := HF5.out.2.1; have := HAC.out; have := HFF.out; omega
              have hmsub : (M : Int) - ((q : Int) - 1 - (jj : Int)) = nb := by omega
              have hj0 : (0 : Int) ≤ (jj : Int) := by omega
              have hjq2 : (jj : Int) < (q : Int) := by omega
              have HLT := Lib.hid hlt
              have v1 : IntKind.i64.wrap ((q : Int) - 1) = (q : Int) - 1 := IntWalk.i64_in _ (by omega)
              have v2 : IntKind.i64.wrap ((q : Int) - 1 - (jj : Int)) = (q : Int) - 1 - (jj : Int) := IntWalk.i64_in _ (by omega)
              have v3 : IntKind.u32.wrap ((q : Int) - 1 - (jj : Int)) = (q : Int) - 1 - (jj : Int) := IntWalk.u32_in _ (by omega)
              have v4 : IntKind.u32.wrap ((M : Int) - ((q : Int) - 1 - (jj : Int))) = nb := by rw [hmsub]; exact IntWalk.u32_in _ (by omega)
              have dn : (nb != nb) = false := by simp
              have da : decide (nb ≤ (ac : Int)) = false := by simp; omega
              clear hle hnum hnb hnb2 hMF hlow hlt hmsub
              go_wp2_with fail
              go_quiet (first
                | (go_at_call 18; exact Calls.quiet_of_same (acked_fs (HF5.out.no ((Kept.refl No wq).drewN _)) HAC.out)))
              clear v1 v2 v3 v4
              go_wp2_with fail
              exact ⟨⟨jj + 1, by go_num, HLT.out, HF5.out.no ((Kept.refl No wq).drewN _), HRV5.out.kept ((Kept.refl No wq).drewN _) (fun _ _ _ => not_no _), HK5.out.drewN _⟩, by have := HLT.out; simp [intOf]; omega⟩
            · have dlt : decide (jj < q) = false := by simp; omega
              clear hlt
              go_wp2_with fail
              obtain ⟨t1, t2, t3, t4⟩ := HT.out
              have hj := HJ.out
              have h80 := HR.out.1
              exact ⟨⟨s', M, R, j + 1, rfl, rfl, by go_num, t1, t2, t3, t4, hj, HF5.out, (HK3.out.and HK4.out).and HK5.out⟩, by simp [intOf]; omega⟩
      · have dj : decide (j < len) = false := by simp; omega
        clear hj
        go_wp2_with fail
        refine (known_ok _).mono ?_
        rintro e w2 ⟨rfl, hk⟩
        go_wp2_with fail
        go_ret
        exact ⟨rfl, HKR.out.and hk⟩
end Go.Proofs.Ytkdienebinnopaa.feedHolds
