/-
  Ident: Claim, Free, Has, Take, Len, Room, New, Copy.
-/
import Derived.Test.YtkdienebinnopaaDoorWalkA
namespace Go.Proofs.YtkdienebinnopaaDoor
open Go.RowKit Go.Zn

/-- is an id there? -/
def has (t : Nat → Bool) (id : Int) : Bool := decide (1 ≤ id) && t id.toNat
def Bk (tb : Nat) : Nat → Prop := fun i => i = tb
def PutPost (b tb most : Nat) (t' : Nat → Bool) (v : Value) (w : World) (e : Ending) (w' : World) : Prop := e = .returned v ∧ Ids w' b tb most t' ∧ Kept (Bk tb) w w'
theorem and_pow {t : Nat → Bool} {i j : Nat} (hj : j < 64) {x B : Int} (hx : x = (wd t i : Nat)) (hB : B = (2 ^ j : Nat)) : (bits .and .u64 x B == 0) = !t (64 * i + j + 1) := by
  have hp : 2 ^ j < 2 ^ 64 := Nat.pow_lt_pow_right (by decide) hj
  have hw := wd_lt t i
  rw [hx, hB, u64_and_nat _ _ hw hp, ← wd_and t i j hj]
  rw [Bool.eq_iff_iff]
  simp
theorem or_pow {t : Nat → Bool} {i j : Nat} (hj : j < 64) {x B : Int} (hx : x = (wd t i : Nat)) (hB : B = (2 ^ j : Nat)) : bits .or .u64 x B = (wd (put t (64 * i + j + 1) true) i : Nat) := by
  have hp : 2 ^ j < 2 ^ 64 := Nat.pow_lt_pow_right (by decide) hj
  rw [hx, hB, u64_or_nat _ _ (wd_lt t i) hp, wd_or t i j hj]
theorem andNot_pow {t : Nat → Bool} {i j : Nat} (hj : j < 64) {x B : Int} (hx : x = (wd t i : Nat)) (hB : B = (2 ^ j : Nat)) : bits .andNot .u64 x B = (wd (put t (64 * i + j + 1) false) i : Nat) := by
  have hp : 2 ^ j < 2 ^ 64 := Nat.pow_lt_pow_right (by decide) hj
  rw [hx, hB, u64_andNot_nat _ _ (wd_lt t i) hp, wd_andNot t i j hj]

set_option maxHeartbeats 800000 in
theorem claim_ok {w : World} {b tb most : Nat} {t : Nat → Bool} (h : Ids w b tb most t) (id : Int) (h1 : 1 ≤ id) (h2 : id ≤ most) (ht : t id.toNat = false) :
    Calls Tryd.prog 15 #[.pointer (some ⟨b, 0, none⟩), .int .i64 id] w (PutPost b tb most (put t id.toNat true) (.int .i64 0) w) := by
  obtain ⟨i, j, hj, hid⟩ := bit_split id h1
  have e : id.toNat = 64 * i + j + 1 := by omega
  rw [e] at ht ⊢
  have hm : 64 * i + j + 1 ≤ most := by omega
  have hi : i < nwo most := by unfold nwo; omega
  obtain ⟨x, hx⟩ : ∃ x : Int, x = (wd t i : Nat) := ⟨_, rfl⟩
  have hc := h.word hi
  rw [← hx] at hc
  have hf := h.free i
  have HID := Lib.hid hid
  have HJ := Lib.hid hj
  have HM := Lib.hid hm
  have H := Lib.hid h
  have HT := Lib.hid ht
  have HX := Lib.hid hx
  clear hid hj hm h ht hx h1 h2 e hi
  go_enter Tryd.func15, Tryd.ntmps15
  go_wp2_with fail
  refine (check_ok H.out id i j HJ.out HID.out HM.out).mono ?_
  rintro e w' ⟨B, q, hB, rfl, rfl⟩
  have d1 : (bits .and .u64 x B == 0) = true := by rw [and_pow HJ.out HX.out hB, HT.out]; rfl
  have d2 : (bits .and .u64 x B != 0) = false := by rw [bne, d1]; rfl
  obtain ⟨y, hy⟩ : ∃ y : Int, bits .or .u64 x B = y := ⟨_, rfl⟩
  have HY := Lib.hid (show y = (wd (put t (64 * i + j + 1) true) i : Nat) by rw [← hy]; exact or_pow HJ.out HX.out hB)
  clear hB
  go_wp2_with fail
  go_ret
  exact ⟨rfl, (H.out.drewN q).put HJ.out HM.out HY.out, ((Kept.refl (Bk tb) w).drewN q).setCell (p := ⟨tb, i, none⟩) (fun _ => rfl) _⟩
set_option maxHeartbeats 800000 in
theorem claim_busy {w : World} {b tb most : Nat} {t : Nat → Bool} (h : Ids w b tb most t) (id : Int) (h1 : 1 ≤ id) (ht : t id.toNat = true) :
    Calls Tryd.prog 15 #[.pointer (some ⟨b, 0, none⟩), .int .i64 id] w (PutPost b tb most t (.int .i64 11) w) := by
  obtain ⟨i, j, hj, hid⟩ := bit_split id h1
  have e : id.toNat = 64 * i + j + 1 := by omega
  rw [e] at ht
  have hm : 64 * i + j + 1 ≤ most := (h.only _ ht).2
  have hi : i < nwo most := by unfold nwo; omega
  obtain ⟨x, hx⟩ : ∃ x : Int, x = (wd t i : Nat) := ⟨_, rfl⟩
  have hc := h.word hi
  rw [← hx] at hc
  have HID := Lib.hid hid
  have HJ := Lib.hid hj
  have HM := Lib.hid hm
  have H := Lib.hid h
  have HT := Lib.hid ht
  have HX := Lib.hid hx
  clear hid hj hm h ht hx h1 e hi
  go_enter Tryd.func15, Tryd.ntmps15
  go_wp2_with fail
  refine (check_ok H.out id i j HJ.out HID.out HM.out).mono ?_
  rintro e w' ⟨B, q, hB, rfl, rfl⟩
  have d1 : (bits .and .u64 x B == 0) = false := by rw [and_pow HJ.out HX.out hB, HT.out]; rfl
  have d2 : (bits .and .u64 x B != 0) = true := by rw [bne, d1]; rfl
  clear hB
  go_wp2_with fail
  go_ret
  exact ⟨rfl, H.out.drewN q, (Kept.refl _ w).drewN q⟩
theorem claim_out {w : World} {b tb most : Nat} {t : Nat → Bool} (h : Ids w b tb most t) (id : Int) (ho : id < 1 ∨ most < id) :
    Calls Tryd.prog 15 #[.pointer (some ⟨b, 0, none⟩), .int .i64 id] w (PutPost b tb most t (.int .i64 2) w) := by
  have H := Lib.hid h
  have HO := Lib.hid ho
  clear h ho
  go_enter Tryd.func15, Tryd.ntmps15
  go_wp2_with fail
  refine (check_out H.out id HO.out).mono ?_
  rintro e w' ⟨rfl, rfl⟩
  go_wp2_with fail
  go_ret
  exact ⟨rfl, H.out, Kept.refl _ _⟩
theorem claim_zero {w : World} {p : Value} (id : Int) (hz : Calls Tryd.prog 24 #[p] w fun e w' => e = .returned (.bool true) ∧ w = w') :
    Calls Tryd.prog 15 #[p, .int .i64 id] w fun e w' => e = .returned (.int .i64 1) ∧ w = w' := by
  have HZ := Lib.hid hz
  clear hz
  go_enter Tryd.func15, Tryd.ntmps15
  go_wp2_with fail
  refine (check_zero id HZ.out).mono ?_
  rintro e w' ⟨rfl, rfl⟩
  go_wp2_with fail
  go_ret
  exact ⟨rfl, rfl⟩
set_option maxHeartbeats 800000 in
theorem free_ok {w : World} {b tb most : Nat} {t : Nat → Bool} (h : Ids w b tb most t) (id : Int) (h1 : 1 ≤ id) (ht : t id.toNat = true) :
    Calls Tryd.prog 13 #[.pointer (some ⟨b, 0, none⟩), .int .i64 id] w (PutPost b tb most (put t id.toNat false) (.int .i64 0) w) := by
  obtain ⟨i, j, hj, hid⟩ := bit_split id h1
  have e : id.toNat = 64 * i + j + 1 := by omega
  rw [e] at ht ⊢
  have hm : 64 * i + j + 1 ≤ most := (h.only _ ht).2
  have hi : i < nwo most := by unfold nwo; omega
  obtain ⟨x, hx⟩ : ∃ x : Int, x = (wd t i : Nat) := ⟨_, rfl⟩
  have hc := h.word hi
  rw [← hx] at hc
  have hf := h.free i
  have HID := Lib.hid hid
  have HJ := Lib.hid hj
  have HM := Lib.hid hm
  have H := Lib.hid h
  have HT := Lib.hid ht
  have HX := Lib.hid hx
  clear hid hj hm h ht hx h1 e hi
  go_enter Tryd.func13, Tryd.ntmps13
  go_wp2_with fail
  refine (check_ok H.out id i j HJ.out HID.out HM.out).mono ?_
  rintro e w' ⟨B, q, hB, rfl, rfl⟩
  have d1 : (bits .and .u64 x B == 0) = false := by rw [and_pow HJ.out HX.out hB, HT.out]; rfl
  obtain ⟨y, hy⟩ : ∃ y : Int, bits .andNot .u64 x B = y := ⟨_, rfl⟩
  have HY := Lib.hid (show y = (wd (put t (64 * i + j + 1) false) i : Nat) by rw [← hy]; exact andNot_pow HJ.out HX.out hB)
  clear hB
  go_wp2_with fail
  go_ret
  exact ⟨rfl, (H.out.drewN q).put HJ.out HM.out HY.out, ((Kept.refl (Bk tb) w).drewN q).setCell (p := ⟨tb, i, none⟩) (fun _ => rfl) _⟩
set_option maxHeartbeats 800000 in
theorem free_none {w : World} {b tb most : Nat} {t : Nat → Bool} (h : Ids w b tb most t) (id : Int) (h1 : 1 ≤ id) (h2 : id ≤ most) (ht : t id.toNat = false) :
    Calls Tryd.prog 13 #[.pointer (some ⟨b, 0, none⟩), .int .i64 id] w (PutPost b tb most t (.int .i64 9) w) := by
  obtain ⟨i, j, hj, hid⟩ := bit_split id h1
  have e : id.toNat = 64 * i + j + 1 := by omega
  rw [e] at ht
  have hm : 64 * i + j + 1 ≤ most := by omega
  have hi : i < nwo most := by unfold nwo; omega
  obtain ⟨x, hx⟩ : ∃ x : Int, x = (wd t i : Nat) := ⟨_, rfl⟩
  have hc := h.word hi
  rw [← hx] at hc
  have HID := Lib.hid hid
  have HJ := Lib.hid hj
  have HM := Lib.hid hm
  have H := Lib.hid h
  have HT := Lib.hid ht
  have HX := Lib.hid hx
  clear hid hj hm h ht hx h1 h2 e hi
  go_enter Tryd.func13, Tryd.ntmps13
  go_wp2_with fail
  refine (check_ok H.out id i j HJ.out HID.out HM.out).mono ?_
  rintro e w' ⟨B, q, hB, rfl, rfl⟩
  have d1 : (bits .and .u64 x B == 0) = true := by rw [and_pow HJ.out HX.out hB, HT.out]; rfl
  clear hB
  go_wp2_with fail
  go_ret
  exact ⟨rfl, H.out.drewN q, (Kept.refl _ w).drewN q⟩
theorem free_out {w : World} {b tb most : Nat} {t : Nat → Bool} (h : Ids w b tb most t) (id : Int) (ho : id < 1 ∨ most < id) :
    Calls Tryd.prog 13 #[.pointer (some ⟨b, 0, none⟩), .int .i64 id] w (PutPost b tb most t (.int .i64 2) w) := by
  have H := Lib.hid h
  have HO := Lib.hid ho
  clear h ho
  go_enter Tryd.func13, Tryd.ntmps13
  go_wp2_with fail
  refine (check_out H.out id HO.out).mono ?_
  rintro e w' ⟨rfl, rfl⟩
  go_wp2_with fail
  go_ret
  exact ⟨rfl, H.out, Kept.refl _ _⟩
theorem free_zero {w : World} {p : Value} (id : Int) (hz : Calls Tryd.prog 24 #[p] w fun e w' => e = .returned (.bool true) ∧ w = w') :
    Calls Tryd.prog 13 #[p, .int .i64 id] w fun e w' => e = .returned (.int .i64 1) ∧ w = w' := by
  have HZ := Lib.hid hz
  clear hz
  go_enter Tryd.func13, Tryd.ntmps13
  go_wp2_with fail
  refine (check_zero id HZ.out).mono ?_
  rintro e w' ⟨rfl, rfl⟩
  go_wp2_with fail
  go_ret
  exact ⟨rfl, rfl⟩
def HasPost (r : Bool) (w : World) (e : Ending) (w' : World) : Prop := ∃ q, e = .returned (.bool r) ∧ w' = w.drewN q
set_option maxHeartbeats 800000 in
theorem has_any {w : World} {b tb most : Nat} {t : Nat → Bool} (h : Ids w b tb most t) (id : Int) :
    Calls Tryd.prog 16 #[.pointer (some ⟨b, 0, none⟩), .int .i64 id] w (HasPost (has t id) w) := by
  by_cases ho : id < 1 ∨ most < id
  · have hr : has t id = false := by
      unfold has
      rcases ho with ho | ho
      · have : ¬ 1 ≤ id := by omega
        simp [this]
      · have : t id.toNat = false := by
          cases ht : t id.toNat
          · rfl
          · have := (h.only _ ht).2; omega
        simp [this]
    have H := Lib.hid h
    have HO := Lib.hid ho
    rw [hr]
    clear h ho hr
    go_enter Tryd.func16, Tryd.ntmps16
    go_wp2_with fail
    refine (check_out H.out id HO.out).mono ?_
    rintro e w' ⟨rfl, rfl⟩
    go_wp2_with fail
    go_ret
    exact ⟨0, rfl, rfl⟩
  · have h1 : 1 ≤ id := by omega
    obtain ⟨i, j, hj, hid⟩ := bit_split id h1
    have e : id.toNat = 64 * i + j + 1 := by omega
    have hr : has t id = t (64 * i + j + 1) := by unfold has; rw [e]; simp [h1]
    rw [hr]
    have hm : 64 * i + j + 1 ≤ most := by omega
    have hi : i < nwo most := by unfold nwo; omega
    obtain ⟨x, hx⟩ : ∃ x : Int, x = (wd t i : Nat) := ⟨_, rfl⟩
    have hc := h.word hi
    rw [← hx] at hc
    obtain ⟨r, hrr⟩ : ∃ r, t (64 * i + j + 1) = r := ⟨_, rfl⟩
    have HR := Lib.hid hrr
    rw [hrr]
    have HID := Lib.hid hid
    have HJ := Lib.hid hj
    have HM := Lib.hid hm
    have H := Lib.hid h
    have HX := Lib.hid hx
    clear hid hj hm h hx h1 e hi hr hrr ho
    go_enter Tryd.func16, Tryd.ntmps16
    go_wp2_with fail
    refine (check_ok H.out id i j HJ.out HID.out HM.out).mono ?_
    rintro e w' ⟨B, q, hB, rfl, rfl⟩
    have d1 : (bits .and .u64 x B != 0) = r := by rw [bne, and_pow HJ.out HX.out hB, HR.out]; simp
    clear hB
    go_wp2_with fail
    go_ret
    exact ⟨q, rfl, rfl⟩
theorem has_zero {w : World} {p : Value} (id : Int) (hz : Calls Tryd.prog 24 #[p] w fun e w' => e = .returned (.bool true) ∧ w = w') :
    Calls Tryd.prog 16 #[p, .int .i64 id] w fun e w' => e = .returned (.bool false) ∧ w = w' := by
  have HZ := Lib.hid hz
  clear hz
  go_enter Tryd.func16, Tryd.ntmps16
  go_wp2_with fail
  refine (check_zero id HZ.out).mono ?_
  rintro e w' ⟨rfl, rfl⟩
  go_wp2_with fail
  go_ret
  exact ⟨rfl, rfl⟩
end Go.Proofs.YtkdienebinnopaaDoor
