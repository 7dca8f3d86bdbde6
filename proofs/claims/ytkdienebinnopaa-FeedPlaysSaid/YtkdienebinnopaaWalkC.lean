/-
  The walks through Ack and Copy of package feed.
-/
import Derived.Test.YtkdienebinnopaaWalkB
import Derived.Lib.MinMax
namespace Go.Proofs.Ytkdienebinnopaa
open Go.RowKit Go.Zn

set_option maxHeartbeats 400000 in
theorem ack_range (b rb k f n a l x : Nat) (dat : Nat → List UInt8) (w : World) (h : IsFeed w b rb k f n a l dat) (hx : n ≤ x) (hx2 : x < 4294967296) :
    Calls Try.prog 17 #[.pointer (some ⟨b, 0, none⟩), .int .u32 x] w fun e w' => e = .returned (.tuple #[.int .i64 0, .int .i64 3]) ∧ w = w' := by
  have c2 := h.hf.c2
  have fn : 0 < n := by have := h.fn; have := h.f1; omega
  have hq1 : (n : Int) ≤ (x : Int) := by omega
  clear h
  go_enter Try.func17, Try.ntmps17
  go_wp2_with (go_at_call 28; refine (zero_no b n _ c2 (by omega)).mono ?_; rintro e w' ⟨rfl, rfl⟩)
  go_ret2
  exact ⟨rfl, rfl⟩
theorem ack_none (p v : Value) (w : World) (hz : Calls Try.prog 28 #[p] w fun e w' => e = .returned (.bool true) ∧ w = w') :
    Calls Try.prog 17 #[p, v] w fun e w' => e = .returned (.tuple #[.int .i64 0, .int .i64 1]) ∧ w = w' := by
  have HZ := Lib.hid hz
  clear hz
  go_enter Try.func17, Try.ntmps17
  go_wp2_with (go_at_call 28; refine HZ.out.mono ?_; rintro e w' ⟨rfl, rfl⟩)
  go_ret2
  exact ⟨rfl, rfl⟩
def AckPost (b rb k f n a l x : Nat) (dat : Nat → List UInt8) (w : World) (e : Ending) (w' : World) : Prop :=
  e = .returned (.tuple #[.int .i64 (max f (x + 1) - f : Nat), .int .i64 0]) ∧ IsFeed w' b rb k (max f (x + 1)) n (max a x) l dat ∧ Kept (Bk b rb) w w'
def AckRel (b rb k f n a l x : Nat) (dat : Nat → List UInt8) (w : World) (i : Value) (wr : World) : Prop :=
  ∃ j p : Nat, i = .int .i64 j ∧ f + j = p ∧ p ≤ max f (x + 1) ∧ IsFeed wr b rb k p n (max a x) l dat ∧ Kept (Bk b rb) w wr
theorem acked_store {w : World} {b rb k f n a l : Nat} {dat : Nat → List UInt8} (h : IsFeed w b rb k f n a l dat) {m : Nat} (hl : m < n) : IsFeed (w.setCell ⟨b, 3, none⟩ (.int .u32 (m : Int))) b rb k f n m l dat := by
  obtain ⟨hf, ⟨ring, h1, h2, h3⟩, r1, r2, r3, r4, r5, r6, r7, r8, r9, r10⟩ := h
  refine ⟨?_, ⟨ring, obj_setCell h1 _ (fun e => r1 e.symm), h2, fun m hm hn => ?_⟩, r1, r2, r3, r4, r5, r6, r7, hl, r9, r10⟩
  · exact hf.set3 _
  · obtain ⟨v, hv, hr⟩ := h3 m hm hn
    exact ⟨v, hv, hr.kept (S := Bk b rb) ((Kept.refl _ w).setCell (p := ⟨b, 3, none⟩) (fun _ => .inl rfl) _) (fun i hi hb hc => by rcases hc with rfl | rfl; exact hb.1 rfl; exact hb.2 rfl)⟩
set_option maxRecDepth 100000 in
set_option maxHeartbeats 400000 in
theorem ack_ok (b rb k f n a l x : Nat) (dat : Nat → List UInt8) (w : World) (h : IsFeed w b rb k f n a l dat) (hx : x < n) :
    Calls Try.prog 17 #[.pointer (some ⟨b, 0, none⟩), .int .u32 x] w (AckPost b rb k f n a l x dat w) := by
  have c2 := h.hf.c2
  have c3 := h.hf.c3
  have z3 := h.hf.fz 3
  have fn : 0 < n := by have := h.fn; have := h.f1; omega
  have hq1 : decide (n ≤ x) = false := by simp; omega
  have n2 : (n : Int) < 4294967295 := by have := h.n2; omega
  have H := Lib.hid h
  have HX := Lib.hid hx
  clear h hx
  go_enter Try.func17, Try.ntmps17
  go_wp2_with fail
  refine (zero_no b n _ c2 (by omega)).mono ?_
  rintro e w' ⟨rfl, rfl⟩
  go_wp2_with fail
  have hM : (max (a : Int) (x : Int)) = ((max a x : Nat) : Int) := by omega
  rw [hM]
  have hax : max a x < n := by have := H.out.af; have := HX.out; omega
  have h1 : IsFeed (w.setCell ⟨b, 3, none⟩ (.int .u32 ((max a x : Nat) : Int))) b rb k f n (max a x) l dat := acked_store H.out hax
  have hk1 : Kept (Bk b rb) w (w.setCell ⟨b, 3, none⟩ (.int .u32 ((max a x : Nat) : Int))) := (Kept.refl _ w).setCell (p := ⟨b, 3, none⟩) (fun _ => .inl rfl) _
  have HFE := Lib.hid H.out.fn
  have HF1 := Lib.hid H.out.f1
  clear c2 c3 z3 hq1 hM fn
  go_loopw [6] (fun i wr => AckRel b rb k f n a l x dat w i wr) (fun i _ => (max f (x + 1) - f) - (intOf i).toNat)
  case atStart => exact ⟨0, f, rfl, rfl, by omega, h1, hk1⟩
  case round =>
    obtain ⟨j, p, rfl, hp, hj, hf, hk⟩ := hrel
    clear h1 hk1
    have hm1 := hf.hf.c1
    have hj1 : (j : Int) ≤ 4294967295 := by have := hf.fn; omega
    have hj2 : (0 : Int) ≤ (j : Int) := by omega
    have HFj := Lib.hid hf
    have HKj := Lib.hid hk
    have HP := Lib.hid hp
    have HJ := Lib.hid hj
    clear hf hk hp hj
    by_cases hlt : p ≤ x
    · have hd : decide (p ≤ x) = true := by simp; exact hlt
      have hpn : p < n := by have := HX.out; omega
      have HL := Lib.hid hlt
      clear hlt
      go_wp2_with fail
      refine (drop_feed HFj.out hpn).mono ?_
      rintro e w2 ⟨rfl, hd2, hk2⟩
      have HD2 := Lib.hid hd2
      have HK2 := Lib.hid hk2
      clear hd2 hk2 hd hpn hm1
      go_wp2_with fail
      go_roundw
      case rel => 
        have := HP.out
        have := HJ.out
        have := HL.out
        exact ⟨j + 1, p + 1, by go_num, by omega, by omega, HD2.out, HKj.out.and HK2.out⟩
      case measure =>
        have := HP.out
        have := HJ.out
        have := HL.out
        simp [intOf]; omega
    · have hd : decide (p ≤ x) = false := by simp; omega
      have HL := Lib.hid hlt
      clear hlt
      go_wp2_with fail
      go_ret2
      have := HP.out
      have := HJ.out
      have := HL.out
      have e1 : max f (x + 1) - f = j := by omega
      have e2 : max f (x + 1) = p := by omega
      exact ⟨by rw [e1]; rfl, by rw [e2]; exact HFj.out, HKj.out⟩
end Go.Proofs.Ytkdienebinnopaa
