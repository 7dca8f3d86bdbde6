/-
  Runes: the walk of RunesHolds.
-/
import Derived.Test.YtoahnfmbmpllaaaDoorWalkL
set_option linter.unusedVariables false
set_option linter.unusedSimpArgs false
namespace Go.Proofs.YtoahnfmbmpllaaaDoor
open Go.RowKit Go.Zn
attribute [local go_sem] Oper.semAt_some

theorem hasPrefix_self (l : List UInt8) : Lib.hasPrefix l l = true := by
  unfold Lib.hasPrefix
  simp
/-- how three comparisons may come out -/
def Ways (X Y Z : Int) : Prop := (X = -1 ∨ X = 0 ∨ X = 1) ∧ (Y = -1 ∨ Y = 0 ∨ Y = 1) ∧ (Z = -1 ∨ Z = 0 ∨ Z = 1) ∧ (X = -1 → Y = -1 → Z = -1) ∧ (X = 1 → Y = 1 → Z = 1) ∧ (X = 0 → Y = Z)
theorem cmpS_one (a b : List UInt8) : cmpS a b = -1 ∨ cmpS a b = 0 ∨ cmpS a b = 1 := by
  unfold cmpS
  split
  · exact cmpB_one _ _
  · exact cmpB_one _ _
theorem cmp_ways {a b c : List UInt8} {X Y Z : Int} (hX : cmpS a b = X) (hY : cmpS b c = Y) (hZ : cmpS a c = Z) : Ways X Y Z := by
  have x1 := cmpS_one a b
  have y1 := cmpS_one b c
  have z1 := cmpS_one a c
  rw [hX] at x1
  rw [hY] at y1
  rw [hZ] at z1
  refine ⟨x1, y1, z1, fun e g => ?_, fun e g => ?_, fun e => ?_⟩
  · have := cmpS_lt_trans (a := a) (b := b) (c := c) (by omega) (by omega)
    omega
  · have := cmpS_gt_trans (a := a) (b := b) (c := c) (by omega) (by omega)
    omega
  · have := cmpS_zero.mp (hX.trans e)
    subst this
    exact hY.symm.trans hZ
theorem fold_twice {a : List UInt8} (ha : a.length ≤ 120) {w : World} (h : VS w) : Calls Tryd.prog 10 #[.string (strOf (foldS a))] w fun e w' => e = .returned (.string (strOf (foldS a))) ∧ Kept No w w' := by
  have hl := foldS_len a
  have := foldS_any (l := foldS a) (by omega) h
  rw [foldS_idem] at this
  exact this
theorem cmp_same {a : List UInt8} (ha : a.length ≤ 120) {w : World} (h : VS w) : Calls Tryd.prog 11 #[.string (strOf a), .string (strOf a)] w fun e w' => e = .returned (.int .i64 0) ∧ Kept No w w' := by
  have := compare_any (a := a) (b := a) (by omega) (by omega) h
  rw [cmpS_self] at this
  exact this
theorem starts_one {a : List UInt8} (ha : a.length ≤ 120) {w : World} (h : VS w) : Calls Tryd.prog 12 #[.string (strOf a), .string (strOf (foldS a))] w fun e w' => e = .returned (.bool true) ∧ Kept No w w' := by
  have hl := foldS_len a
  have := starts_any (a := a) (b := foldS a) (by omega) (by omega) h
  rw [show startsS a (foldS a) = true from by unfold startsS; rw [keyS_fold]; exact hasPrefix_self _] at this
  exact this
theorem starts_two {a : List UInt8} (ha : a.length ≤ 120) {w : World} (h : VS w) : Calls Tryd.prog 12 #[.string (strOf (foldS a)), .string (strOf a)] w fun e w' => e = .returned (.bool true) ∧ Kept No w w' := by
  have hl := foldS_len a
  have := starts_any (a := foldS a) (b := a) (by omega) (by omega) h
  rw [show startsS (foldS a) a = true from by unfold startsS; rw [keyS_fold]; exact hasPrefix_self _] at this
  exact this
theorem width_of_fit {a : List UInt8} {k : Nat} (hl : (fitS a k).length ≤ 10000) {w : World} (h : VS w) : Calls Tryd.prog 6 #[.string (strOf (fitS a k))] w fun e w' => e = .returned (.int .i64 (k : Nat)) ∧ Kept No w w' := by
  have := width_any (l := fitS a k) (by omega) h
  rw [width_fit] at this
  exact this
theorem holds_out {a b c : ByteArray} {k : Int} (ha : a.size ≤ maxLen) (hb : b.size ≤ maxLen) (hc : c.size ≤ maxLen) (h : 120 < a.size ∨ 120 < b.size ∨ 120 < c.size ∨ k < 0 ∨ 200 < k) {w : World} (hV : VS w) : Calls Tryd.prog 4 #[.string a, .string b, .string c, .int .i64 k] w fun e w' => e = .returned (.bool true) ∧ Kept No w w' := by
  have HKN := Lib.hid (known_any hV)
  unfold maxLen at ha hb hc
  clear hV
  by_cases h0 : 120 < a.size
  · have d0 : decide (120 < a.size) = true := decide_eq_true h0
    have e0 : decide ((120 : Int) < (a.size : Int)) = true := decide_eq_true (by omega)
    clear h h0
    go_enter Tryd.func4, Tryd.ntmps4
    go_wp2_with fail
    refine HKN.out.mono ?_
    rintro e w1 ⟨rfl, hk⟩
    have HK := Lib.hid hk
    clear hk
    go_wp2_with fail
    go_ret
    exact ⟨rfl, HK.out⟩
  have d0 : decide (120 < a.size) = false := decide_eq_false h0
  have e0 : decide ((120 : Int) < (a.size : Int)) = false := decide_eq_false (by omega)
  by_cases h1 : 120 < b.size
  · have d1 : decide (120 < b.size) = true := decide_eq_true h1
    have e1 : decide ((120 : Int) < (b.size : Int)) = true := decide_eq_true (by omega)
    clear h h0 h1
    go_enter Tryd.func4, Tryd.ntmps4
    go_wp2_with fail
    refine HKN.out.mono ?_
    rintro e w1 ⟨rfl, hk⟩
    have HK := Lib.hid hk
    clear hk
    go_wp2_with fail
    go_ret
    exact ⟨rfl, HK.out⟩
  have d1 : decide (120 < b.size) = false := decide_eq_false h1
  have e1 : decide ((120 : Int) < (b.size : Int)) = false := decide_eq_false (by omega)
  by_cases h2 : 120 < c.size
  · have d2 : decide (120 < c.size) = true := decide_eq_true h2
    have e2 : decide ((120 : Int) < (c.size : Int)) = true := decide_eq_true (by omega)
    clear h h0 h1 h2
    go_enter Tryd.func4, Tryd.ntmps4
    go_wp2_with fail
    refine HKN.out.mono ?_
    rintro e w1 ⟨rfl, hk⟩
    have HK := Lib.hid hk
    clear hk
    go_wp2_with fail
    go_ret
    exact ⟨rfl, HK.out⟩
  have d2 : decide (120 < c.size) = false := decide_eq_false h2
  have e2 : decide ((120 : Int) < (c.size : Int)) = false := decide_eq_false (by omega)
  by_cases h3 : k < 0
  · have d3 : decide (k < 0) = true := decide_eq_true h3
    clear h h0 h1 h2 h3
    go_enter Tryd.func4, Tryd.ntmps4
    go_wp2_with fail
    refine HKN.out.mono ?_
    rintro e w1 ⟨rfl, hk⟩
    have HK := Lib.hid hk
    clear hk
    go_wp2_with fail
    go_ret
    exact ⟨rfl, HK.out⟩
  have d3 : decide (k < 0) = false := decide_eq_false h3
  have d4 : decide (200 < k) = true := decide_eq_true (by omega)
  clear h h0 h1 h2 h3
  go_enter Tryd.func4, Tryd.ntmps4
  go_wp2_with fail
  refine HKN.out.mono ?_
  rintro e w1 ⟨rfl, hk⟩
  have HK := Lib.hid hk
  clear hk
  go_wp2_with fail
  go_ret
  exact ⟨rfl, HK.out⟩
def HoRel (l : List UInt8) (k : Nat) (w0 : World) (wr : World) : Prop := ∃ pos : Nat, (∀ c ∈ rest l pos, ¬ (65 ≤ c ∧ c ≤ 90)) ∧ It l k pos w0 wr
set_option maxRecDepth 100000 in
set_option maxHeartbeats 16000000 in
theorem holds_in {a b c : List UInt8} (ha : a.length ≤ 120) (hb : b.length ≤ 120) (hc : c.length ≤ 120) {k : Nat} (hk : k ≤ 200) {w : World} (hV : VS w) : Calls Tryd.prog 4 #[.string (strOf a), .string (strOf b), .string (strOf c), .int .i64 (k : Nat)] w fun e w' => e = .returned (.bool true) ∧ Kept No w w' := by
  have hfl := foldS_len a
  have sa := strOf_size a
  have sb := strOf_size b
  have sc := strOf_size c
  have t0 : decide (120 < a.length) = false := decide_eq_false (by omega)
  have t1 : decide (120 < b.length) = false := decide_eq_false (by omega)
  have t2 : decide (120 < c.length) = false := decide_eq_false (by omega)
  have t0' : decide ((120 : Int) < (a.length : Int)) = false := decide_eq_false (by omega)
  have t1' : decide ((120 : Int) < (b.length : Int)) = false := decide_eq_false (by omega)
  have t2' : decide ((120 : Int) < (c.length : Int)) = false := decide_eq_false (by omega)
  have t3 : decide ((k : Int) < 0) = false := decide_eq_false (by omega)
  have t4 : decide (200 < (k : Int)) = false := decide_eq_false (by omega)
  have t4' : decide (200 < k) = false := decide_eq_false (by omega)
  have HFA := Lib.hid (foldS_any (show a.length ≤ 100000 by omega) hV)
  have HFF := Lib.hid (fun w (h : VS w) => fold_twice ha h)
  have HCA := Lib.hid (fun w (h : VS w) => cmp_same ha h)
  have HS1 := Lib.hid (fun w (h : VS w) => starts_one ha h)
  have HS2 := Lib.hid (fun w (h : VS w) => starts_two ha h)
  have HVA := Lib.hid (fun w (h : VS w) => valid_any (l := a) (by omega) h)
  have HFI := Lib.hid (fun w (h : VS w) => fit_any (l := a) (by omega) hk h)
  have hfitl : (fitS a k).length ≤ 10000 := by
    have h1 := enc_bound (fitR (rns a) k)
    have h2 : (fitR (rns a) k).length ≤ 600 := by
      have hr := rns_len a
      unfold fitR
      split
      · split
        · simp
        · have := cutR_len_le (k - 1) (rns a) 0
          simp
          omega
      · simp
        omega
    show (enc (fitR (rns a) k)).length ≤ 10000
    omega
  have HWF := Lib.hid (fun w (h : VS w) => width_of_fit hfitl h)
  have HXC := Lib.hid (fun w (h : VS w) => compare_any (a := a) (b := b) (by omega) (by omega) h)
  have HYC := Lib.hid (fun w (h : VS w) => compare_any (a := b) (b := c) (by omega) (by omega) h)
  have HZC := Lib.hid (fun w (h : VS w) => compare_any (a := a) (b := c) (by omega) (by omega) h)
  have HKN := Lib.hid (fun w (h : VS w) => known_any h)
  have HV := Lib.hid hV
  obtain ⟨X, hX⟩ : ∃ X, cmpS a b = X := ⟨_, rfl⟩
  obtain ⟨Y, hY⟩ : ∃ Y, cmpS b c = Y := ⟨_, rfl⟩
  obtain ⟨Z, hZ⟩ : ∃ Z, cmpS a c = Z := ⟨_, rfl⟩
  rw [hX] at HXC
  rw [hY] at HYC
  rw [hZ] at HZC
  have H0 := Lib.hid (show X = 0 → a = b from fun e => cmpS_zero.mp (hX.trans e))
  have HAL := Lib.hid (cmp_ways hX hY hZ)
  have HLOW := Lib.hid (fun c (hc : c ∈ rest (foldS a) 0) => fold_low (l := a) (c := c) (by rw [rest_zero] at hc; exact hc))
  have sf := strOf_size (foldS a)
  obtain ⟨f, hf⟩ : ∃ f, foldS a = f := ⟨_, rfl⟩
  rw [hf] at HFA HFF HS1 HS2 HLOW sf hfl
  obtain ⟨ft, hft⟩ : ∃ ft, fitS a k = ft := ⟨_, rfl⟩
  rw [hft] at HFI HWF
  obtain ⟨v, hv⟩ : ∃ v, validV a = v := ⟨_, rfl⟩
  rw [hv] at HVA
  have ef : ((strOf f).toList == (strOf f).toList) = true := by simp
  clear hV hX hY hZ hfitl hf hft hv
  cases v
  · go_enter Tryd.func4, Tryd.ntmps4
    go_wp2_with fail
    refine (HFA.out).mono ?_
    rintro e w1 ⟨rfl, hk⟩
    have HK1 := Lib.hid (hk)
    clear hk
    go_wp2_with fail
    refine (HFF.out _ (HV.out.no HK1.out)).mono ?_
    rintro e w2 ⟨rfl, hk⟩
    have HK2 := Lib.hid (HK1.out.and hk)
    clear hk
    go_wp2_with fail
    refine (HCA.out _ (HV.out.no HK2.out)).mono ?_
    rintro e w3 ⟨rfl, hk⟩
    have HK3 := Lib.hid (HK2.out.and hk)
    clear hk
    go_wp2_with fail
    refine (HS1.out _ (HV.out.no HK3.out)).mono ?_
    rintro e w4 ⟨rfl, hk⟩
    have HK4 := Lib.hid (HK3.out.and hk)
    clear hk
    go_wp2_with fail
    refine (HS2.out _ (HV.out.no HK4.out)).mono ?_
    rintro e w5 ⟨rfl, hk⟩
    have HK5 := Lib.hid (HK4.out.and hk)
    clear hk
    go_wp2_with fail
    refine (HVA.out _ (HV.out.no HK5.out)).mono ?_
    rintro e w6 ⟨rfl, hk⟩
    have HK6 := Lib.hid (HK5.out.and hk)
    clear hk
    go_wp2_with fail
    refine (HFI.out _ (HV.out.no HK6.out)).mono ?_
    rintro e w7 ⟨rfl, hk⟩
    have HK7 := Lib.hid (HK6.out.and hk)
    clear hk
    go_wp2_with fail
    refine (HWF.out _ (HV.out.no HK7.out)).mono ?_
    rintro e w8 ⟨rfl, hk⟩
    have HK8 := Lib.hid (HK7.out.and hk)
    clear hk
    go_wp2_with fail
    refine (HXC.out _ (HV.out.no HK8.out)).mono ?_
    rintro e w9 ⟨rfl, hk⟩
    have HK9 := Lib.hid (HK8.out.and hk)
    clear hk
    go_wp2_with fail
    refine (HYC.out _ (HV.out.no HK9.out)).mono ?_
    rintro e w10 ⟨rfl, hk⟩
    have HK10 := Lib.hid (HK9.out.and hk)
    clear hk
    go_wp2_with fail
    refine (HZC.out _ (HV.out.no HK10.out)).mono ?_
    rintro e w11 ⟨rfl, hk⟩
    have HK11 := Lib.hid (HK10.out.and hk)
    clear hk
    have HKF := Lib.hid (HKN.out _ (HV.out.no HK11.out))
    obtain ⟨hx, hy, hz, hxy, hxy2, hx0⟩ := HAL.out
    have h0 := H0.out
    clear HXC HYC HZC HAL H0 HFI HWF HKN HV
    rcases hx with rfl | rfl | rfl
    · rcases hy with rfl | rfl | rfl
      · obtain rfl := hxy rfl rfl
        clear hxy hxy2 hx0 h0 hz
        go_wp2_with fail
        refine HKF.out.mono ?_
        rintro e w12 ⟨rfl, hk⟩
        have HK12 := Lib.hid (HK11.out.and hk)
        clear hk
        go_wp2_with fail
        go_ret
        exact ⟨rfl, HK12.out⟩
      · clear hxy hxy2 hx0 h0
        rcases hz with rfl | rfl | rfl
        all_goals
          go_wp2_with fail
          refine HKF.out.mono ?_
          rintro e w12 ⟨rfl, hk⟩
          have HK12 := Lib.hid (HK11.out.and hk)
          clear hk
          go_wp2_with fail
          go_ret
          exact ⟨rfl, HK12.out⟩
      · clear hxy hxy2 hx0 h0
        rcases hz with rfl | rfl | rfl
        all_goals
          go_wp2_with fail
          refine HKF.out.mono ?_
          rintro e w12 ⟨rfl, hk⟩
          have HK12 := Lib.hid (HK11.out.and hk)
          clear hk
          go_wp2_with fail
          go_ret
          exact ⟨rfl, HK12.out⟩
    · have hab := h0 rfl
      have eab : ((strOf a).toList == (strOf b).toList) = true := by rw [hab]; simp
      have hyz := hx0 rfl
      clear hxy hxy2 hx0 h0 hab hz
      subst hyz
      rcases hy with rfl | rfl | rfl
      all_goals
        go_wp2_with fail
        refine HKF.out.mono ?_
        rintro e w12 ⟨rfl, hk⟩
        have HK12 := Lib.hid (HK11.out.and hk)
        clear hk
        go_wp2_with fail
        go_ret
        exact ⟨rfl, HK12.out⟩
    · rcases hy with rfl | rfl | rfl
      · clear hxy hxy2 hx0 h0
        rcases hz with rfl | rfl | rfl
        all_goals
          go_wp2_with fail
          refine HKF.out.mono ?_
          rintro e w12 ⟨rfl, hk⟩
          have HK12 := Lib.hid (HK11.out.and hk)
          clear hk
          go_wp2_with fail
          go_ret
          exact ⟨rfl, HK12.out⟩
      · clear hxy hxy2 hx0 h0
        rcases hz with rfl | rfl | rfl
        all_goals
          go_wp2_with fail
          refine HKF.out.mono ?_
          rintro e w12 ⟨rfl, hk⟩
          have HK12 := Lib.hid (HK11.out.and hk)
          clear hk
          go_wp2_with fail
          go_ret
          exact ⟨rfl, HK12.out⟩
      · obtain rfl := hxy2 rfl rfl
        clear hxy hxy2 hx0 h0 hz
        go_wp2_with fail
        refine HKF.out.mono ?_
        rintro e w12 ⟨rfl, hk⟩
        have HK12 := Lib.hid (HK11.out.and hk)
        clear hk
        go_wp2_with fail
        go_ret
        exact ⟨rfl, HK12.out⟩
  · go_enter Tryd.func4, Tryd.ntmps4
    go_wp2_with fail
    refine (HFA.out).mono ?_
    rintro e w1 ⟨rfl, hk⟩
    have HK1 := Lib.hid (hk)
    clear hk
    go_wp2_with fail
    refine (HFF.out _ (HV.out.no HK1.out)).mono ?_
    rintro e w2 ⟨rfl, hk⟩
    have HK2 := Lib.hid (HK1.out.and hk)
    clear hk
    go_wp2_with fail
    refine (HCA.out _ (HV.out.no HK2.out)).mono ?_
    rintro e w3 ⟨rfl, hk⟩
    have HK3 := Lib.hid (HK2.out.and hk)
    clear hk
    go_wp2_with fail
    refine (HS1.out _ (HV.out.no HK3.out)).mono ?_
    rintro e w4 ⟨rfl, hk⟩
    have HK4 := Lib.hid (HK3.out.and hk)
    clear hk
    go_wp2_with fail
    refine (HS2.out _ (HV.out.no HK4.out)).mono ?_
    rintro e w5 ⟨rfl, hk⟩
    have HK5 := Lib.hid (HK4.out.and hk)
    clear hk
    go_wp2_with fail
    refine (HVA.out _ (HV.out.no HK5.out)).mono ?_
    rintro e w6 ⟨rfl, hk⟩
    have HK6 := Lib.hid (HK5.out.and hk)
    clear hk
    go_wp2_with fail
    have HIT := Lib.hid (It.start f w6)
    go_loopw [] (fun wr => HoRel f w6.heap.size w6 wr) (fun wr => f.length - wr.iterPos w6.heap.size)
    case atStart => exact ⟨0, HLOW.out, HIT.out⟩
    case round =>
      obtain ⟨pos, hn, hI⟩ := hrel
      have HI := Lib.hid hI
      have hip := hI.pos
      by_cases hp : pos < f.length
      · have hp2 : pos < (strOf f).size := by omega
        have hnx : ∀ ty, (Instr.next (.pointer (some ⟨w6.heap.size, 0, none⟩)) true ty).run Tryd.prog wr = _ := fun ty => Lib.run_next_any_at wr w6.heap.size (strOf f) pos ty hI.it hp2
        have hd : Utf8.decode (strOf f) pos = dec f pos := rfl
        rw [hd] at hnx
        obtain ⟨d, hdd⟩ : ∃ d, dec f pos = d := ⟨_, rfl⟩
        have hdp : 1 ≤ d.2 := by rw [← hdd]; exact dec_pos f pos
        have hra := rest_at hp
        rw [hdd] at hnx hra
        obtain ⟨x, wd⟩ := d
        have hra : rest f pos = x :: rest f (pos + wd) := hra
        have hdp : 1 ≤ wd := hdp
        have HI2 := Lib.hid (HI.out.next (pos + wd))
        rw [hra] at hn
        have hx := hn x (by simp)
        have HS := Lib.hid (fun c (hc : c ∈ rest f (pos + wd)) => hn c (by simp [hc]))
        have HP := Lib.hid (And.intro hp hdp)
        by_cases h1 : 65 ≤ x
        · have u1 : decide (65 ≤ x) = true := decide_eq_true h1
          have u1' : decide ((65 : Int) ≤ (x : Int)) = true := decide_eq_true (by omega)
          have u2 : decide (x ≤ 90) = false := decide_eq_false (by omega)
          have u2' : decide ((x : Int) ≤ 90) = false := decide_eq_false (by omega)
          clear hI hn hd hdd hra hp hdp hx h1
          go_wp2_with fail
          have hP := HP.out
          have h3 := HI2.out.pos
          refine ⟨⟨pos + wd, HS.out, HI2.out⟩, ?_⟩
          rw [h3, hip]
          omega
        · have u1 : decide (65 ≤ x) = false := decide_eq_false h1
          have u1' : decide ((65 : Int) ≤ (x : Int)) = false := decide_eq_false (by omega)
          clear hI hn hd hdd hra hp hdp hx h1
          go_wp2_with fail
          have hP := HP.out
          have h3 := HI2.out.pos
          refine ⟨⟨pos + wd, HS.out, HI2.out⟩, ?_⟩
          rw [h3, hip]
          omega
      · have hp2 : ¬ pos < (strOf f).size := by omega
        have hnx : ∀ ty, (Instr.next (.pointer (some ⟨w6.heap.size, 0, none⟩)) true ty).run Tryd.prog wr = _ := fun ty => Lib.run_next_end_at wr w6.heap.size (strOf f) pos ty hI.it hp2
        have HK6 := Lib.hid (HK6.out.and hI.kept)
        clear hI hn hp
        go_wp2_with fail
        refine (HFI.out _ (HV.out.no HK6.out)).mono ?_
        rintro e w7 ⟨rfl, hk⟩
        have HK7 := Lib.hid (HK6.out.and hk)
        clear hk
        go_wp2_with fail
        refine (HWF.out _ (HV.out.no HK7.out)).mono ?_
        rintro e w8 ⟨rfl, hk⟩
        have HK8 := Lib.hid (HK7.out.and hk)
        clear hk
        go_wp2_with fail
        refine (HXC.out _ (HV.out.no HK8.out)).mono ?_
        rintro e w9 ⟨rfl, hk⟩
        have HK9 := Lib.hid (HK8.out.and hk)
        clear hk
        go_wp2_with fail
        refine (HYC.out _ (HV.out.no HK9.out)).mono ?_
        rintro e w10 ⟨rfl, hk⟩
        have HK10 := Lib.hid (HK9.out.and hk)
        clear hk
        go_wp2_with fail
        refine (HZC.out _ (HV.out.no HK10.out)).mono ?_
        rintro e w11 ⟨rfl, hk⟩
        have HK11 := Lib.hid (HK10.out.and hk)
        clear hk
        have HKF := Lib.hid (HKN.out _ (HV.out.no HK11.out))
        obtain ⟨hx, hy, hz, hxy, hxy2, hx0⟩ := HAL.out
        have h0 := H0.out
        clear HXC HYC HZC HAL H0 HFI HWF HKN HV
        rcases hx with rfl | rfl | rfl
        · rcases hy with rfl | rfl | rfl
          · obtain rfl := hxy rfl rfl
            clear hxy hxy2 hx0 h0 hz
            go_wp2_with fail
            refine HKF.out.mono ?_
            rintro e w12 ⟨rfl, hk⟩
            have HK12 := Lib.hid (HK11.out.and hk)
            clear hk
            go_wp2_with fail
            go_ret
            exact ⟨rfl, HK12.out⟩
          · clear hxy hxy2 hx0 h0
            rcases hz with rfl | rfl | rfl
            all_goals
              go_wp2_with fail
              refine HKF.out.mono ?_
              rintro e w12 ⟨rfl, hk⟩
              have HK12 := Lib.hid (HK11.out.and hk)
              clear hk
              go_wp2_with fail
              go_ret
              exact ⟨rfl, HK12.out⟩
          · clear hxy hxy2 hx0 h0
            rcases hz with rfl | rfl | rfl
            all_goals
              go_wp2_with fail
              refine HKF.out.mono ?_
              rintro e w12 ⟨rfl, hk⟩
              have HK12 := Lib.hid (HK11.out.and hk)
              clear hk
              go_wp2_with fail
              go_ret
              exact ⟨rfl, HK12.out⟩
        · have hab := h0 rfl
          have eab : ((strOf a).toList == (strOf b).toList) = true := by rw [hab]; simp
          have hyz := hx0 rfl
          clear hxy hxy2 hx0 h0 hab hz
          subst hyz
          rcases hy with rfl | rfl | rfl
          all_goals
            go_wp2_with fail
            refine HKF.out.mono ?_
            rintro e w12 ⟨rfl, hk⟩
            have HK12 := Lib.hid (HK11.out.and hk)
            clear hk
            go_wp2_with fail
            go_ret
            exact ⟨rfl, HK12.out⟩
        · rcases hy with rfl | rfl | rfl
          · clear hxy hxy2 hx0 h0
            rcases hz with rfl | rfl | rfl
            all_goals
              go_wp2_with fail
              refine HKF.out.mono ?_
              rintro e w12 ⟨rfl, hk⟩
              have HK12 := Lib.hid (HK11.out.and hk)
              clear hk
              go_wp2_with fail
              go_ret
              exact ⟨rfl, HK12.out⟩
          · clear hxy hxy2 hx0 h0
            rcases hz with rfl | rfl | rfl
            all_goals
              go_wp2_with fail
              refine HKF.out.mono ?_
              rintro e w12 ⟨rfl, hk⟩
              have HK12 := Lib.hid (HK11.out.and hk)
              clear hk
              go_wp2_with fail
              go_ret
              exact ⟨rfl, HK12.out⟩
          · obtain rfl := hxy2 rfl rfl
            clear hxy hxy2 hx0 h0 hz
            go_wp2_with fail
            refine HKF.out.mono ?_
            rintro e w12 ⟨rfl, hk⟩
            have HK12 := Lib.hid (HK11.out.and hk)
            clear hk
            go_wp2_with fail
            go_ret
            exact ⟨rfl, HK12.out⟩
theorem holds_any {a b c : ByteArray} {k : Int} (ha : a.size ≤ maxLen) (hb : b.size ≤ maxLen) (hc : c.size ≤ maxLen) {w : World} (hV : VS w) : Calls Tryd.prog 4 #[.string a, .string b, .string c, .int .i64 k] w fun e w' => e = .returned (.bool true) ∧ Kept No w w' := by
  by_cases h : 120 < a.size ∨ 120 < b.size ∨ 120 < c.size ∨ k < 0 ∨ 200 < k
  · exact holds_out ha hb hc h hV
  · obtain ⟨l, rfl⟩ : ∃ l, a = strOf l := ⟨a.data.toList, by simp [strOf]⟩
    obtain ⟨m, rfl⟩ : ∃ l, b = strOf l := ⟨b.data.toList, by simp [strOf]⟩
    obtain ⟨n, rfl⟩ : ∃ l, c = strOf l := ⟨c.data.toList, by simp [strOf]⟩
    rw [strOf_size, strOf_size, strOf_size] at h
    obtain ⟨j, rfl⟩ := Int.eq_ofNat_of_zero_le (show 0 ≤ k by omega)
    exact holds_in (by omega) (by omega) (by omega) (by omega) hV
end Go.Proofs.YtoahnfmbmpllaaaDoor
