/-
  Runes: which runes are marks.
-/
import Derived.Test.YtoahnfmbmpllaaaDoorWalkF
import Derived.Deep.QuietTactic
import Derived.BigQuiet
import Derived.WalkMore
set_option linter.unusedVariables false
set_option linter.unusedSimpArgs false
namespace Go.Proofs.YtoahnfmbmpllaaaDoor
open Go.RowKit Go.Zn
attribute [local go_sem] Oper.semAt_some

def markS : ByteArray := { data := #[32, 39, 45, 44, 46] }
theorem marks_ascii {r : Nat} (hr : r < 128) (w : World) : Calls Tryd.prog 30 #[.string { data := #[32, 39, 45, 44, 46] }, .int .i32 (r : Nat)] w fun e w' => e = .returned (.bool (markR r)) ∧ w' = w := by
  refine (Tryd.strings_ContainsRune_ascii { data := #[32, 39, 45, 44, 46] } (r : Nat) w (by omega) (by omega)).mono fun e w' ⟨he, hw⟩ => ⟨he.trans ?_, hw⟩
  have : ∀ r : Fin 128, decide (0 ≤ Lib.indexByte [32, 39, 45, 44, 46] (((r.val : Nat) : Int).toNat.toUInt8)) = markR r.val := by decide +kernel
  exact congrArg (fun b => Ending.returned (.bool b)) (this ⟨r, hr⟩)
theorem indexB_none (l : List UInt8) (hl : ∀ b ∈ l, b.toNat < 128) {x : UInt8} (hx : 128 ≤ x.toNat) : Lib.indexByte l x = -1 := by
  induction l with
  | nil => rfl
  | cons b l ih =>
    have hb := hl b (by simp)
    have e : (b == x) = false := by
      rw [beq_eq_false_iff_ne]
      rintro rfl
      omega
    unfold Lib.indexByte
    rw [e, ih (fun c hc => hl c (by simp [hc]))]
    rfl
theorem enc_last {r : Nat} (hs : Scal r) (h : 128 ≤ r) : ∃ (l : List UInt8) (x : UInt8), Lib.encodeRune (r : Int) = l ++ [x] ∧ 1 ≤ l.length ∧ l.length ≤ 3 ∧ 128 ≤ x.toNat := by
  unfold Scal at hs
  by_cases h2 : r ≤ 2047
  · refine ⟨[((192 : Int) + r / 64).toNat.toUInt8], ((128 : Int) + r % 64).toNat.toUInt8, by unfold Lib.encodeRune; rw [Lib.encodeRuneZ_two (by omega) (by omega)]; rfl, by simp, by simp, ?_⟩
    rw [byte_nat (by omega) (by omega)]; omega
  by_cases h3 : r ≤ 65535
  · refine ⟨[((224 : Int) + r / 4096).toNat.toUInt8, ((128 : Int) + r / 64 % 64).toNat.toUInt8], ((128 : Int) + r % 64).toNat.toUInt8, by unfold Lib.encodeRune; rw [Lib.encodeRuneZ_three (by omega)]; rfl, by simp, by simp, ?_⟩
    rw [byte_nat (by omega) (by omega)]; omega
  · refine ⟨[((240 : Int) + r / 262144).toNat.toUInt8, ((128 : Int) + r / 4096 % 64).toNat.toUInt8, ((128 : Int) + r / 64 % 64).toNat.toUInt8], ((128 : Int) + r % 64).toNat.toUInt8, by unfold Lib.encodeRune; rw [Lib.encodeRuneZ_four (by omega) (by omega)]; rfl, by simp, by simp, ?_⟩
    rw [byte_nat (by omega) (by omega)]; omega
theorem idx_tail (d : Nat) (hd : d ≤ 5) {x : UInt8} (hx : 128 ≤ x.toNat) (w : World) : Calls Tryd.prog 62 #[.string (ByteArray.extract { data := #[32, 39, 45, 44, 46] } d 5), .int .u8 (x.toNat : Nat)] w fun e w' => e = .returned (.int .i64 (-1)) ∧ w' = w := by
  refine (Tryd.strings_IndexByte _ (x.toNat : Nat) w).mono fun e w' ⟨he, hw⟩ => ⟨he.trans ?_, hw⟩
  have e1 : ((x.toNat : Nat) : Int).toNat.toUInt8 = x := by simp
  rw [e1]
  refine congrArg (fun z => Ending.returned (.int .i64 z)) (indexB_none _ (fun b hb => ?_) hx)
  have h2 : b ∈ ([32, 39, 45, 44, 46] : List UInt8) := by
    have := mem_extract hb
    exact this
  have : ∀ b ∈ ([32, 39, 45, 44, 46] : List UInt8), b.toNat < 128 := by decide
  exact this b h2
def AtW (n : Nat) (w0 : World) (iv : Value) (wr : World) : Prop := iv = .int .i64 (n : Nat) ∧ wr = w0
set_option maxHeartbeats 4000000 in
set_option maxRecDepth 1000000 in
theorem index_far {r : Nat} (hs : Scal r) (h : 128 ≤ r) (hr : r ≠ 65533) (w : World) : Calls Tryd.prog 49 #[.string { data := #[32, 39, 45, 44, 46] }, .int .i32 (r : Nat)] w fun e w' => e = .returned (.int .i64 (-1)) ∧ Kept No w w' := by
  obtain ⟨l, x, hE, hl1, hl3, hx⟩ := enc_last hs h
  have hc : Utf8.encode (r : Int) = strOf (l ++ [x]) := by rw [encode_eq hs, hE]
  have hle := hs.le
  have HVR := Lib.hid (show Calls Tryd.prog 63 #[.int .i32 (r : Nat)] w fun e w' => e = .returned (.bool true) ∧ w' = w from (Tryd.utf8_ValidRune (r : Nat) w).mono fun e w' ⟨he, hw⟩ => ⟨he.trans (by
    have : Lib.validRune (r : Int) = true := by
      unfold Lib.validRune
      unfold Scal at hs
      exact decide_eq_true (by omega)
    rw [this]), hw⟩)
  have d1 : decide ((0 : Int) ≤ (r : Int)) = true := decide_eq_true (by omega)
  have d2 : decide ((r : Int) < 128) = false := decide_eq_false (by omega)
  have d2' : decide (r < 128) = false := decide_eq_false (by omega)
  have d3 : ((r : Int) == 65533) = false := by simp; omega
  have HIX := Lib.hid (fun (d : Nat) (hd : d ≤ 5) w => idx_tail d hd hx w)
  obtain ⟨rs, hrs⟩ : ∃ rs, strOf (l ++ [x]) = rs := ⟨_, rfl⟩
  have hsz : rs.size = l.length + 1 := by rw [← hrs]; simp [strOf, ByteArray.size]
  have hat : ∀ h, rs[l.length]'h = x := fun h => by
    subst hrs
    simp [strOf, ByteArray.getElem_eq_getElem_data]
  rw [hrs] at hc
  have hx255 : x.toNat < 256 := x.toNat_lt
  obtain h1 | h1 | h1 : l.length = 1 ∨ l.length = 2 ∨ l.length = 3 := by omega
  · rw [h1] at hsz hat
    have hszl : 1 < rs.size := by omega
    have hww : IntKind.i64.wrap 2 = 2 := by decide
    have hat2 := hat hszl
    have e0 : (((({ data := #[32, 39, 45, 44, 46] } : ByteArray)[1]'(by decide)).toNat : Nat) : Int) = 39 := by rfl
    have e1 : ((((({ data := #[32, 39, 45, 44, 46] } : ByteArray)[1]'(by decide)).toNat : Nat) : Int) != (x.toNat : Int)) = true := by rw [e0]; simp; omega
    clear e0
    have HIX2 := Lib.hid (fun w => HIX.out 2 (by decide) w)
    clear hE hl1 hl3 h hs hr hrs hat HIX
    go_enter Tryd.func49, Tryd.ntmps49
    go_wp2_with fail
    refine HVR.out.mono ?_
    rintro e w1 ⟨rfl, hk⟩
    have hk := hk.symm
    subst hk
    go_wp2_with fail
    go_step3
    go_wp2_with fail
    go_loopw [9] (fun iv wr => AtW 1 w iv wr) (fun _ _ => 0)
    case atStart => exact ⟨rfl, rfl⟩
    case round =>
      obtain ⟨rfl, rfl⟩ := hrel
      go_wp2_with fail
      go_step3
      go_wp2_with fail
      go_quiet (fail)
      go_wp2_with fail
      go_quiet ((go_at_call 62; exact (HIX2.out _).mono fun _ _ ⟨he, hw⟩ => ⟨he, _, hw⟩))
      go_wp2_with fail
      rw [Exit.noGoto_ret]
      go_wp2_with fail
      try rw [Exit.noGoto_ret]
      go_ret
      exact ⟨rfl, by first | exact (Kept.refl No _).drewN _ | exact (Kept.refl No _).drew | exact (Kept.refl No _).drew.drew⟩
  · rw [h1] at hsz hat
    have hszl : 2 < rs.size := by omega
    have hww : IntKind.i64.wrap 3 = 3 := by decide
    have hat2 := hat hszl
    have e0 : (((({ data := #[32, 39, 45, 44, 46] } : ByteArray)[2]'(by decide)).toNat : Nat) : Int) = 45 := by rfl
    have e1 : ((((({ data := #[32, 39, 45, 44, 46] } : ByteArray)[2]'(by decide)).toNat : Nat) : Int) != (x.toNat : Int)) = true := by rw [e0]; simp; omega
    clear e0
    have HIX2 := Lib.hid (fun w => HIX.out 3 (by decide) w)
    clear hE hl1 hl3 h hs hr hrs hat HIX
    go_enter Tryd.func49, Tryd.ntmps49
    go_wp2_with fail
    refine HVR.out.mono ?_
    rintro e w1 ⟨rfl, hk⟩
    have hk := hk.symm
    subst hk
    go_wp2_with fail
    go_step3
    go_wp2_with fail
    go_loopw [9] (fun iv wr => AtW 2 w iv wr) (fun _ _ => 0)
    case atStart => exact ⟨rfl, rfl⟩
    case round =>
      obtain ⟨rfl, rfl⟩ := hrel
      go_wp2_with fail
      go_step3
      go_wp2_with fail
      go_quiet (fail)
      go_wp2_with fail
      go_quiet ((go_at_call 62; exact (HIX2.out _).mono fun _ _ ⟨he, hw⟩ => ⟨he, _, hw⟩))
      go_wp2_with fail
      rw [Exit.noGoto_ret]
      go_wp2_with fail
      try rw [Exit.noGoto_ret]
      go_ret
      exact ⟨rfl, by first | exact (Kept.refl No _).drewN _ | exact (Kept.refl No _).drew | exact (Kept.refl No _).drew.drew⟩
  · rw [h1] at hsz hat
    have hszl : 3 < rs.size := by omega
    have hww : IntKind.i64.wrap 4 = 4 := by decide
    have hat2 := hat hszl
    have e0 : (((({ data := #[32, 39, 45, 44, 46] } : ByteArray)[3]'(by decide)).toNat : Nat) : Int) = 44 := by rfl
    have e1 : ((((({ data := #[32, 39, 45, 44, 46] } : ByteArray)[3]'(by decide)).toNat : Nat) : Int) != (x.toNat : Int)) = true := by rw [e0]; simp; omega
    clear e0
    have HIX2 := Lib.hid (fun w => HIX.out 4 (by decide) w)
    clear hE hl1 hl3 h hs hr hrs hat HIX
    go_enter Tryd.func49, Tryd.ntmps49
    go_wp2_with fail
    refine HVR.out.mono ?_
    rintro e w1 ⟨rfl, hk⟩
    have hk := hk.symm
    subst hk
    go_wp2_with fail
    go_step3
    go_wp2_with fail
    go_loopw [9] (fun iv wr => AtW 3 w iv wr) (fun _ _ => 0)
    case atStart => exact ⟨rfl, rfl⟩
    case round =>
      obtain ⟨rfl, rfl⟩ := hrel
      go_wp2_with fail
      go_step3
      go_wp2_with fail
      go_quiet (fail)
      go_wp2_with fail
      go_quiet ((go_at_call 62; exact (HIX2.out _).mono fun _ _ ⟨he, hw⟩ => ⟨he, _, hw⟩))
      go_wp2_with fail
      rw [Exit.noGoto_ret]
      go_wp2_with fail
      try rw [Exit.noGoto_ret]
      go_ret
      exact ⟨rfl, by first | exact (Kept.refl No _).drewN _ | exact (Kept.refl No _).drew | exact (Kept.refl No _).drew.drew⟩
def mkL : List UInt8 := [32, 39, 45, 44, 46]
theorem mk_low : ∀ (p : Nat) (h : p < (strOf mkL).size), ((strOf mkL)[p]'h).toNat < 128 := by
  intro p h
  have h5 : p < 5 := h
  obtain rfl | rfl | rfl | rfl | rfl : p = 0 ∨ p = 1 ∨ p = 2 ∨ p = 3 ∨ p = 4 := by omega
  all_goals exact of_decide_eq_true rfl
def MkRel (k : Nat) (w0 : World) (wr : World) : Prop := ∃ pos : Nat, pos ≤ 5 ∧ It mkL k pos w0 wr
set_option maxHeartbeats 4000000 in
set_option maxRecDepth 1000000 in
theorem index_bad (w : World) : Calls Tryd.prog 49 #[.string { data := #[32, 39, 45, 44, 46] }, .int .i32 65533] w fun e w' => e = .returned (.int .i64 (-1)) ∧ Kept No w w' := by
  have HIT := Lib.hid (It.start mkL w)
  have HLOW := Lib.hid mk_low
  have hsz : (strOf mkL).size = 5 := rfl
  go_enter Tryd.func49, Tryd.ntmps49
  go_wp2_with fail
  go_loopw [] (fun wr => MkRel w.heap.size w wr) (fun wr => 5 - wr.iterPos w.heap.size)
  case atStart => exact ⟨0, by decide, HIT.out⟩
  case round =>
    obtain ⟨pos, hp5, hI⟩ := hrel
    have HI := Lib.hid hI
    have hip := hI.pos
    by_cases hp : pos < 5
    · have hp2 : pos < (strOf mkL).size := by rw [hsz]; exact hp
      have hlow := HLOW.out pos hp2
      have hnx : ∀ ty, (Instr.next (.pointer (some ⟨w.heap.size, 0, none⟩)) true ty).run Tryd.prog wr = _ := fun ty => Lib.run_next_ascii_at wr w.heap.size (strOf mkL) pos ty hI.it hp2 hlow
      obtain ⟨b, hb⟩ : ∃ b, ((strOf mkL)[pos]'hp2).toNat = b := ⟨_, rfl⟩
      rw [hb] at hnx hlow
      have e1 : ((b : Int) == 65533) = false := by simp; omega
      have HI2 := Lib.hid (HI.out.next (pos + 1))
      have HP := Lib.hid hp
      clear hI hb hp hp5
      go_wp2_with fail
      have hP := HP.out
      have h3 := HI2.out.pos
      refine ⟨⟨pos + 1, by omega, HI2.out⟩, ?_⟩
      rw [h3, hip]
      omega
    · have hp2 : ¬ pos < (strOf mkL).size := by rw [hsz]; exact hp
      have hnx : ∀ ty, (Instr.next (.pointer (some ⟨w.heap.size, 0, none⟩)) true ty).run Tryd.prog wr = _ := fun ty => Lib.run_next_end_at wr w.heap.size (strOf mkL) pos ty hI.it hp2
      clear hI hp hp5
      go_wp2_with fail
      try rw [Exit.noGoto_ret]
      try go_wp2_with fail
      try rw [Exit.noGoto_ret]
      go_ret
      exact ⟨rfl, HI.out.kept⟩
theorem marks_any {r : Nat} (hs : Scal r) (w : World) : Calls Tryd.prog 30 #[.string { data := #[32, 39, 45, 44, 46] }, .int .i32 (r : Nat)] w fun e w' => e = .returned (.bool (markR r)) ∧ Kept No w w' := by
  by_cases h : r < 128
  · exact (marks_ascii h w).mono fun e w' ⟨he, hw⟩ => ⟨he, hw ▸ Kept.refl No w⟩
  · have HI := Lib.hid (show Calls Tryd.prog 49 #[.string { data := #[32, 39, 45, 44, 46] }, .int .i32 (r : Nat)] w fun e w' => e = .returned (.int .i64 (-1)) ∧ Kept No w w' by
      by_cases hb : r = 65533
      · subst hb; exact index_bad w
      · exact index_far hs (by omega) hb w)
    have HR := Lib.hid (show markR r = false by unfold markR; simp; omega)
    clear hs h
    go_enter Tryd.func30, Tryd.ntmps30
    go_wp2_with fail
    refine HI.out.mono ?_
    rintro e w1 ⟨rfl, hk⟩
    have HK := Lib.hid hk
    clear hk
    go_wp2_with fail
    go_ret
    exact ⟨by rw [HR.out]; rfl, HK.out⟩
end Go.Proofs.YtoahnfmbmpllaaaDoor
