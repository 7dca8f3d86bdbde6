/-
  Ident: Take, Len, Room.
-/
import Derived.Test.YtkdienebinnopaaDoorWalkB
namespace Go.Proofs.YtkdienebinnopaaDoor
open Go.RowKit Go.Zn

/-- the library's table lies in its variable -/
def Laid (w : World) : Prop := TabAt 0 Lib.deBruijn64tab w
theorem Laid.kept {S : Nat → Prop} {w w' : World} (h : Laid w) (hk : Kept S w w') (h0 : ¬ S 0) : Laid w' := fun j hj => hk.cell (h j hj) h0
theorem Laid.pos {w : World} (h : Laid w) : 0 < w.heap.size := block_lt_of_cell (h 0 (by decide : 0 < Lib.deBruijn64tab.length))
theorem com_xor (n : Nat) (hn : n < 18446744073709551616) : bits .xor .u64 IntKind.u64.max (n : Int) = ((18446744073709551615 - n : Nat) : Int) := by
  have e : IntKind.u64.max = ((18446744073709551615 : Nat) : Int) := by decide
  rw [e, u64_xor_nat _ _ (by decide) hn]
  congr 1
  apply Nat.eq_of_testBit_eq
  intro k
  have e1 : 18446744073709551615 = 2 ^ 64 - 1 := by decide
  have e2 : 18446744073709551615 - n = 2 ^ 64 - (n + 1) := by omega
  rw [e2, e1, Nat.testBit_xor, Nat.testBit_two_pow_sub_one, Nat.testBit_two_pow_sub_succ hn]
  by_cases hk : k < 64
  · simp [hk]
  · have : n.testBit k = false := Nat.testBit_lt_two_pow (Nat.lt_of_lt_of_le hn (Nat.pow_le_pow_right (show 0 < 2 by decide) (show 64 ≤ k by omega)))
    simp [hk, this]
theorem tz_any (y : Int) (n : Nat) (hy : y = n) (hn : n < 18446744073709551616) (w : World) (hl : Laid w) :
    Calls Tryd.prog 27 #[.int .u64 y] w fun e w' => e = .returned (.int .i64 (Lib.ctz 64 n)) ∧ w = w' := by
  subst hy
  exact (Tryd.bits_TrailingZeros64 n hn w (fun _ => hl)).mono fun _ _ ⟨a, b⟩ => ⟨a, b.symm⟩

def com (n : Nat) : Nat := 18446744073709551615 - n
theorem com_is (n : Nat) : 18446744073709551615 - n = com n := rfl
theorem com_le (n : Nat) : com n < 18446744073709551616 := by unfold com; omega
attribute [irreducible] com
/-- the least free id, or none -/
def LeastFree (t : Nat → Bool) (most : Nat) (id : Nat) : Prop := 1 ≤ id ∧ id ≤ most ∧ t id = false ∧ ∀ k, 1 ≤ k → k < id → t k = true
def AllTaken (t : Nat → Bool) (most : Nat) : Prop := ∀ k, 1 ≤ k → k ≤ most → t k = true
def TakePost (b tb most : Nat) (t : Nat → Bool) (w : World) (e : Ending) (w' : World) : Prop :=
  (∃ id : Nat, LeastFree t most id ∧ e = .returned (.tuple #[.int .i64 (id : Nat), .int .i64 0]) ∧ Ids w' b tb most (put t id true) ∧ Kept (Bk tb) w w') ∨
  (AllTaken t most ∧ e = .returned (.tuple #[.int .i64 0, .int .i64 7]) ∧ w = w')
def TRel (t : Nat → Bool) (most nw : Nat) (i : Value) : Prop := ∃ j : Nat, i = .int .i64 (j : Nat) ∧ j ≤ nw ∧ ∀ k, 1 ≤ k → k ≤ 64 * j → k ≤ most → t k = true
set_option maxRecDepth 100000 in
set_option maxHeartbeats 1600000 in
theorem take_any {w : World} {b tb most : Nat} {t : Nat → Bool} (h : Ids w b tb most t) (hl : Laid w) : Calls Tryd.prog 14 #[.pointer (some ⟨b, 0, none⟩)] w (TakePost b tb most t w) := by
  obtain ⟨c, c1⟩ := h.c1
  have c0 := h.c0
  have hm2 := h.m2
  obtain ⟨nw, hnw⟩ : ∃ nw, nwo most = nw := ⟨_, rfl⟩
  have hnw2 : (nw : Int) ≤ 64 := by rw [← hnw]; unfold nwo; omega
  rw [hnw] at c1
  have H := Lib.hid h
  have HL := Lib.hid hl
  have HNW := Lib.hid hnw
  clear h hl hnw
  go_enter Tryd.func14, Tryd.ntmps14
  go_wp2_with fail
  refine (zero_no H.out).mono ?_
  rintro e w' ⟨rfl, rfl⟩
  go_wp2_with fail
  go_loop [4, 5, 6, 14] (fun _ _ _ i => TRel t most nw i) (fun _ _ _ i => nw - (intOf i).toNat)
  case atStart => exact ⟨0, rfl, Nat.zero_le _, fun k h1 h2 _ => by omega⟩
  case round =>
    obtain ⟨i, rfl, hi, hall⟩ := hrel
    have HA := Lib.hid hall
    clear hall
    by_cases hlt : i < nw
    · have d1 : decide (i < nw) = true := by simp; exact hlt
      obtain ⟨x, hx⟩ : ∃ x : Int, x = (wd t i : Nat) := ⟨_, rfl⟩
      have hc := H.out.word (i := i) (by rw [HNW.out]; exact hlt)
      rw [← hx] at hc
      have hf := H.out.free i
      have hx0 : 0 ≤ x := by omega
      have hx1 : x ≤ 18446744073709551615 := by have := wd_lt t i; omega
      have HX := Lib.hid hx
      have HLT := Lib.hid hlt
      have hi64 : (i : Int) < 64 := by omega
      have hi0 : (0 : Int) ≤ (i : Int) := by omega
      clear hx hlt
      obtain ⟨y, hy⟩ : ∃ y : Int, bits .xor .u64 IntKind.u64.max x = y := ⟨_, rfl⟩
      obtain ⟨n, hn⟩ : ∃ n : Nat, com (wd t i) = n := ⟨_, rfl⟩
      have hyn : y = n := by rw [← hy, HX.out, com_xor _ (wd_lt t i), com_is, hn]
      have hn2 : n < 18446744073709551616 := by rw [← hn]; exact com_le _
      have HYN := Lib.hid (show bits .xor .u64 IntKind.u64.max x = n by rw [hy]; exact hyn)
      have HN2 := Lib.hid hn2
      have HNE := Lib.hid hn
      clear hn hn2
      by_cases hz : y = 0
      · have dz : (bits .xor .u64 IntKind.u64.max x != 0) = false := by rw [hy]; simp; exact hz
        have hn0 : n = 0 := by omega
        have hct : Lib.ctz 64 n = 64 := by rw [hn0]; rfl
        have HCT := Lib.hid hct
        have HN0 := Lib.hid hn0
        clear hz hyn hn0 hct hy
        go_wp2_with fail
        refine (tz_any _ n HYN.out HN2.out _ HL.out).mono ?_
        rintro e w' ⟨rfl, rfl⟩
        rw [HCT.out]
        go_wp2_with fail
        have hi2 := HLT.out
        refine ⟨⟨i + 1, by go_num, by omega, fun k h1 h2 h3 => ?_⟩, by simp [intOf]; omega⟩
        by_cases e : k ≤ 64 * i
        · exact HA.out k h1 e h3
        · have := com_zero t i (by rw [com_is, HNE.out, HN0.out]) (k - 64 * i - 1) (by omega)
          have e2 : 64 * i + (k - 64 * i - 1) + 1 = k := by omega
          rw [e2] at this
          exact this
      · have dz : (bits .xor .u64 IntKind.u64.max x != 0) = true := by rw [hy]; simp; exact hz
        have hn0 : n ≠ 0 := by omega
        obtain ⟨c1', c2', c3'⟩ : Lib.ctz 64 (com (wd t i)) < 64 ∧ t (64 * i + Lib.ctz 64 (com (wd t i)) + 1) = false ∧ ∀ j, j < Lib.ctz 64 (com (wd t i)) → t (64 * i + j + 1) = true := by
          have := com_ctz t i (by rw [com_is, HNE.out]; exact hn0)
          rw [com_is] at this
          exact this
        rw [HNE.out] at c1' c2' c3'
        obtain ⟨cz, hcz⟩ : ∃ cz, Lib.ctz 64 n = cz := ⟨_, rfl⟩
        rw [hcz] at c1' c2' c3'
        obtain ⟨hs1, hs2⟩ := wd_succ t i cz c1' c2' c3'
        have hx2 : x + 1 ≤ 18446744073709551615 := by have := HX.out; omega
        obtain ⟨z, hzz⟩ : ∃ z : Int, bits .or .u64 x (x + 1) = z := ⟨_, rfl⟩
        have hz2 : z = (wd (put t (64 * i + cz + 1) true) i : Nat) := by
          rw [← hzz, HX.out]
          have := u64_or_nat (wd t i) (wd t i + 1) (wd_lt t i) hs2
          rw [← hs1, ← this]
          rfl
        have HZ2 := Lib.hid hz2
        have HCZ := Lib.hid hcz
        have HC1 := Lib.hid c1'
        have HC2 := Lib.hid c2'
        have HC3 := Lib.hid c3'
        have hcz64 : (cz : Int) < 64 := by omega
        have hcz0 : (0 : Int) ≤ (cz : Int) := by omega
        clear hz hyn hn0 c1' c2' c3' hcz hs1 hs2 hz2 hy
        by_cases hm : 64 * i + cz + 1 ≤ most
        · have dm : decide (64 * (i : Int) + (cz : Int) + 1 ≤ (most : Int)) = true := by simp; omega
          have HM := Lib.hid hm
          clear hm
          go_wp2_with fail
          refine (tz_any _ n HYN.out HN2.out _ HL.out).mono ?_
          rintro e w' ⟨rfl, rfl⟩
          rw [HCZ.out]
          go_wp2_with fail
          go_ret2
          refine .inl ⟨64 * i + cz + 1, ⟨by omega, HM.out, HC2.out, fun k h1 h2 => ?_⟩, by simp, H.out.put HC1.out HM.out HZ2.out, (Kept.refl (Bk tb) w).setCell (p := ⟨tb, i, none⟩) (fun _ => rfl) _⟩
          by_cases e : k ≤ 64 * i
          · exact HA.out k h1 e (by have := HM.out; omega)
          · have := HC3.out (k - 64 * i - 1) (by omega)
            have e2 : 64 * i + (k - 64 * i - 1) + 1 = k := by omega
            rw [e2] at this
            exact this
        · have dm : decide (64 * (i : Int) + (cz : Int) + 1 ≤ (most : Int)) = false := by simp; omega
          have HM := Lib.hid hm
          clear hm
          go_wp2_with fail
          refine (tz_any _ n HYN.out HN2.out _ HL.out).mono ?_
          rintro e w' ⟨rfl, rfl⟩
          rw [HCZ.out]
          go_wp2_with fail
          have hi2 := HLT.out
          refine ⟨⟨i + 1, by go_num, by omega, fun k h1 h2 h3 => ?_⟩, by simp [intOf]; omega⟩
          by_cases e : k ≤ 64 * i
          · exact HA.out k h1 e h3
          · have := HC3.out (k - 64 * i - 1) (by have := HM.out; omega)
            have e2 : 64 * i + (k - 64 * i - 1) + 1 = k := by omega
            rw [e2] at this
            exact this
    · have hin : nw = i := by omega
      have d1 : decide (i < nw) = false := by simp; exact Nat.le_of_not_lt hlt
      have HIN := Lib.hid hin
      clear hlt hin hi
      go_wp2_with fail
      go_ret2
      refine .inr ⟨fun k h1 h2 => HA.out k h1 ?_ h2, rfl, rfl⟩
      have h3 := HIN.out
      have h4 := HNW.out
      unfold nwo at h4
      omega
def LRel (t : Nat → Bool) (nw : Nat) (n i : Value) : Prop := ∃ j : Nat, i = .int .i64 (j : Nat) ∧ j ≤ nw ∧ n = .int .i64 (cnt t (64 * j) : Nat)
theorem cnt_all {w : World} {b tb most : Nat} {t : Nat → Bool} (h : Ids w b tb most t) : cnt t (64 * nwo most) = cnt t most := cnt_none (by unfold nwo; omega) (fun m h1 _ => by
  cases ht : t m
  · rfl
  · have := (h.only m ht).2; omega)
set_option maxRecDepth 100000 in
set_option maxHeartbeats 800000 in
theorem len_any {w : World} {b tb most : Nat} {t : Nat → Bool} (h : Ids w b tb most t) : Calls Tryd.prog 11 #[.pointer (some ⟨b, 0, none⟩)] w fun e w' => e = .returned (.int .i64 (cnt t most : Nat)) ∧ w = w' := by
  obtain ⟨c, c1⟩ := h.c1
  have hca := cnt_all h
  obtain ⟨nw, hnw⟩ : ∃ nw, nwo most = nw := ⟨_, rfl⟩
  have hm2 := h.m2
  have hnw2 : (nw : Int) ≤ 64 := by rw [← hnw]; unfold nwo; omega
  rw [hnw] at c1 hca
  have H := Lib.hid h
  have HNW := Lib.hid hnw
  have HCA := Lib.hid hca
  clear h hnw hca hm2
  go_enter Tryd.func11, Tryd.ntmps11
  go_wp2_with fail
  refine (zero_no H.out).mono ?_
  rintro e w' ⟨rfl, rfl⟩
  go_wp2_with fail
  go_loop [3, 5, 14] (fun n _ i => LRel t nw n i) (fun _ _ i => nw - (intOf i).toNat)
  case atStart => exact ⟨0, rfl, Nat.zero_le _, rfl⟩
  case round =>
    obtain ⟨i, rfl, hi, rfl⟩ := hrel
    by_cases hlt : i < nw
    · have d1 : decide (i < nw) = true := by simp; exact hlt
      obtain ⟨x, hx⟩ : ∃ x : Int, x = (wd t i : Nat) := ⟨_, rfl⟩
      have hc := H.out.word (i := i) (by rw [HNW.out]; exact hlt)
      rw [← hx] at hc
      have hpw := popb_wd t i 64 (Nat.le_refl _)
      have hle := cnt_le t (64 * (i + 1))
      obtain ⟨p, hp⟩ : ∃ p, popb (wd t i) 64 = p := ⟨_, rfl⟩
      obtain ⟨a, ha⟩ : ∃ a, cnt t (64 * i) = a := ⟨_, rfl⟩
      rw [hp, ha] at hpw
      rw [ha]
      have hap : (a : Int) + (p : Int) ≤ 4096 := by have e : 64 * (i + 1) = 64 * i + 64 := by omega
                                                    rw [e] at hle; omega
      have ha0 : (0 : Int) ≤ (a : Int) := by omega
      have hp0 : (0 : Int) ≤ (p : Int) := by omega
      have HX := Lib.hid hx
      have HLT := Lib.hid hlt
      have HP := Lib.hid hp
      have HPW := Lib.hid hpw
      have hi0 : (0 : Int) ≤ (i : Int) := by omega
      have hi64 : (i : Int) < 64 := by omega
      clear hx hlt hp ha hpw hle hi
      go_wp2_with fail
      refine (ones_any x (wd t i) HX.out (wd_lt t i) _).mono ?_
      rintro e w' ⟨rfl, rfl⟩
      rw [HP.out]
      go_wp2_with fail
      have hi2 := HLT.out
      refine ⟨⟨i + 1, by go_num, by omega, ?_⟩, by simp [intOf]; omega⟩
      have e : 64 * (i + 1) = 64 * i + 64 := by omega
      rw [e, ← HPW.out]
      simp
    · have hin : nw = i := by omega
      have d1 : decide (i < nw) = false := by simp; exact Nat.le_of_not_lt hlt
      have HIN := Lib.hid hin
      clear hlt hin hi
      go_wp2_with fail
      go_ret
      refine ⟨?_, rfl⟩
      rw [← HCA.out, HIN.out]
      rfl
theorem len_zero {w : World} {p : Value} (hz : Calls Tryd.prog 24 #[p] w fun e w' => e = .returned (.bool true) ∧ w = w') :
    Calls Tryd.prog 11 #[p] w fun e w' => e = .returned (.int .i64 0) ∧ w = w' := by
  have HZ := Lib.hid hz
  clear hz
  go_enter Tryd.func11, Tryd.ntmps11
  go_wp2_with fail
  refine HZ.out.mono ?_
  rintro e w' ⟨rfl, rfl⟩
  go_wp2_with fail
  go_ret
  exact ⟨rfl, rfl⟩
theorem room_zero {w : World} {p : Value} (hz : Calls Tryd.prog 24 #[p] w fun e w' => e = .returned (.bool true) ∧ w = w') :
    Calls Tryd.prog 12 #[p] w fun e w' => e = .returned (.int .i64 0) ∧ w = w' := by
  have HZ := Lib.hid hz
  clear hz
  go_enter Tryd.func12, Tryd.ntmps12
  go_wp2_with fail
  refine HZ.out.mono ?_
  rintro e w' ⟨rfl, rfl⟩
  go_wp2_with fail
  go_ret
  exact ⟨rfl, rfl⟩
theorem take_zero {w : World} {p : Value} (hz : Calls Tryd.prog 24 #[p] w fun e w' => e = .returned (.bool true) ∧ w = w') :
    Calls Tryd.prog 14 #[p] w fun e w' => e = .returned (.tuple #[.int .i64 0, .int .i64 1]) ∧ w = w' := by
  have HZ := Lib.hid hz
  clear hz
  go_enter Tryd.func14, Tryd.ntmps14
  go_wp2_with fail
  refine HZ.out.mono ?_
  rintro e w' ⟨rfl, rfl⟩
  go_wp2_with fail
  go_ret2
  exact ⟨rfl, rfl⟩
set_option maxHeartbeats 800000 in
theorem room_any {w : World} {b tb most : Nat} {t : Nat → Bool} (h : Ids w b tb most t) (r : Int) (hr : r = (most : Int) - (cnt t most : Nat)) : Calls Tryd.prog 12 #[.pointer (some ⟨b, 0, none⟩)] w fun e w' => e = .returned (.int .i64 r) ∧ ∃ q, w' = w.drewN q := by
  have c0 := h.c0
  have hm2 := h.m2
  have hle := cnt_le t most
  obtain ⟨a, ha⟩ : ∃ a, cnt t most = a := ⟨_, rfl⟩
  rw [ha] at hr hle
  have HR := Lib.hid hr
  have HA := Lib.hid ha
  have H := Lib.hid h
  have v1 : IntKind.i64.wrap ((most : Int) - (a : Int)) = r := by rw [hr]; exact IntWalk.i64_in _ (by omega)
  clear h hr ha hm2 hle
  go_enter Tryd.func12, Tryd.ntmps12
  go_wp2_with fail
  refine (zero_no H.out).mono ?_
  rintro e w' ⟨rfl, rfl⟩
  go_wp2_with fail
  go_quiet ((go_at_call 11; exact Calls.quiet_of_same ((len_any (H.out.no ((Kept.refl No w).drewN _))).mono fun _ _ ⟨a, b⟩ => ⟨by rw [HA.out] at a; exact a, b.symm⟩)))
  go_wp2_with fail
  go_ret
  exact ⟨rfl, _, rfl⟩
end Go.Proofs.YtkdienebinnopaaDoor
