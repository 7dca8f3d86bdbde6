/-
  Runes: keys, Starts, Valid.
-/
import Derived.Test.YtoahnfmbmpllaaaDoorWalkG
import Derived.Shelf.Unicode.ValidAny
set_option linter.unusedVariables false
set_option linter.unusedSimpArgs false
namespace Go.Proofs.YtoahnfmbmpllaaaDoor
open Go.RowKit Go.Zn
attribute [local go_sem] Oper.semAt_some

/-- what a key keeps of a rune -/
def keyF (z : Int) : Int := if plainR z.toNat then z else -1
theorem keyF_nat (c : Nat) : keyF c = if plainR c then (c : Int) else -1 := by unfold keyF; simp
theorem key1_any {c : Nat} (hc : c ≤ 1114111) {w : World} (hV : VS w) : Calls Tryd.prog 39 #[.int .i32 (c : Nat)] w fun e w' => e = .returned (.int .i32 (keyF c)) ∧ Kept No w w' := by
  have HP := Lib.hid (plain_any hc hV)
  have HR := Lib.hid (keyF_nat c)
  obtain ⟨v, hv⟩ : ∃ v, plainR c = v := ⟨_, rfl⟩
  rw [hv] at HP HR
  clear hv hc hV
  cases v
  all_goals
    go_enter Tryd.func39, Tryd.ntmps39
    go_wp2_with fail
    refine HP.out.mono ?_
    rintro e w1 ⟨rfl, hk⟩
    have HK := Lib.hid hk
    clear hk
    go_wp2_with fail
    go_ret
    exact ⟨by rw [HR.out]; rfl, HK.out⟩
theorem map_any {l : List UInt8} (hl : l.length ≤ 1000000) {w : World} (hV : VS w) : Calls Tryd.prog 38 #[.func (.func 39) #[] #[], .string (strOf l)] w fun e w' => e = .returned (.string (strOf (enc ((rns l).filter plainR)))) ∧ Kept No w w' := by
  have hsz := strOf_size l
  refine (Tryd.strings_Map_grows 39 #[] (enters_of Tryd.func39 (by kernel_rfl) rfl) keyF (strOf l) w (by omega) ?_ ?_ hV.tabs).mono fun e w' ⟨he, hb⟩ => ⟨he.trans ?_, Kept.of_below hb⟩
  · intro W x hx hb
    exact (key1_any hx (hV.no (Kept.of_below hb))).mono fun e w' ⟨he, hk⟩ => ⟨he, hk.to_below⟩
  · intro x hx
    rw [keyF_nat]
    split <;> omega
  · rw [strOf_list, key_map keyF keyF_nat l]
    rfl
theorem key_any {l : List UInt8} (hl : l.length ≤ 100000) {w : World} (hV : VS w) : Calls Tryd.prog 24 #[.string (strOf l)] w fun e w' => e = .returned (.string (strOf (keyS l))) ∧ Kept No w w' := by
  have HF := Lib.hid (foldS_any hl hV)
  have HM := Lib.hid (fun w (h : VS w) => map_any (l := foldS l) (by have := foldS_len l; omega) h)
  have HV := Lib.hid hV
  have HR := Lib.hid (show keyS l = enc ((rns (foldS l)).filter plainR) from rfl)
  clear hl hV
  go_enter Tryd.func24, Tryd.ntmps24
  go_wp2_with fail
  refine HF.out.mono ?_
  rintro e w1 ⟨rfl, hk⟩
  have HK := Lib.hid hk
  clear hk
  go_wp2_with fail
  refine (HM.out _ (HV.out.no HK.out)).mono ?_
  rintro e w2 ⟨rfl, hk⟩
  have HK2 := Lib.hid (HK.out.and hk)
  clear hk
  go_wp2_with fail
  go_ret
  exact ⟨by rw [HR.out]; rfl, HK2.out⟩
/-- the key of one begins with the key of the other -/
def startsS (a b : List UInt8) : Bool := Lib.hasPrefix (keyS a) (keyS b)
theorem starts_any {a b : List UInt8} (ha : a.length ≤ 100000) (hb : b.length ≤ 100000) {w : World} (hV : VS w) : Calls Tryd.prog 12 #[.string (strOf a), .string (strOf b)] w fun e w' => e = .returned (.bool (startsS a b)) ∧ Kept No w w' := by
  have HA := Lib.hid (key_any ha hV)
  have HB := Lib.hid (fun w (h : VS w) => key_any hb h)
  have HP := Lib.hid (fun w => (show Calls Tryd.prog 23 #[.string (strOf (keyS a)), .string (strOf (keyS b))] w fun e w' => e = .returned (.bool (startsS a b)) ∧ w' = w by
    have := Tryd.strings_HasPrefix (strOf (keyS a)) (strOf (keyS b)) w
    rw [strOf_list, strOf_list] at this
    exact this))
  have HV := Lib.hid hV
  clear ha hb hV
  go_enter Tryd.func12, Tryd.ntmps12
  go_wp2_with fail
  refine HA.out.mono ?_
  rintro e w1 ⟨rfl, hk⟩
  have HK := Lib.hid hk
  clear hk
  go_wp2_with fail
  refine (HB.out _ (HV.out.no HK.out)).mono ?_
  rintro e w2 ⟨rfl, hk⟩
  have HK2 := Lib.hid (HK.out.and hk)
  clear hk
  go_wp2_with fail
  refine (HP.out _).mono ?_
  rintro e w3 ⟨rfl, hk⟩
  have hk := hk.symm
  subst hk
  go_wp2_with fail
  go_ret
  exact ⟨rfl, HK2.out⟩
theorem vstr_any {l : List UInt8} (hl : l.length ≤ 1000000) {w : World} (hV : VS w) : Calls Tryd.prog 25 #[.string (strOf l)] w fun e w' => e = .returned (.bool (Lib.validD l)) ∧ Kept No w w' := by
  have hsz := strOf_size l
  refine (show Calls Tryd.prog 25 #[.string (strOf l)] w _ from Any.utf8_ValidString Tryd.lays196 (strOf l) w (by omega) hV.tabs).mono fun e w' ⟨he, hb⟩ => ⟨he.trans (by rw [strOf_list]), Kept.of_below hb⟩
theorem count_any {l : List UInt8} (hl : l.length ≤ 1000000) (w : World) : Calls Tryd.prog 26 #[.string (strOf l)] w fun e w' => e = .returned (.int .i64 ((rns l).length : Nat)) ∧ Kept No w w' := by
  have hsz := strOf_size l
  refine (Tryd.utf8_RuneCountInString (strOf l) w (by omega)).mono fun e w' h => ?_
  obtain ⟨he, hk⟩ := h
  refine ⟨he.trans (by rw [runeCount_eq, strOf_list]), ?_⟩
  obtain ⟨pos, rfl⟩ := hk
  exact (Kept.refl No w).alloc _
theorem two_any {l : List UInt8} (hl : l.length ≤ 1000000) {w : World} (hV : VS w) : Calls Tryd.prog 27 #[.string (strOf l), .string { data := #[32, 32] }] w fun e w' => e = .returned (.bool (Lib.contains l [32, 32])) ∧ Kept No w w' := by
  have hsz := strOf_size l
  obtain ⟨m, hm⟩ := hV.most
  refine (Tryd.strings_Contains (strOf l) { data := #[32, 32] } m w (by omega) hm).mono fun e w' ⟨he, hw⟩ => ⟨he.trans (by rw [strOf_list]), hw ▸ Kept.refl No w⟩
theorem trim_any {l : List UInt8} (hl : l.length ≤ 1000000) (w : World) : Calls Tryd.prog 28 #[.string (strOf l), .string { data := #[32] }] w fun e w' => e = .returned (.string (strOf (Lib.trimB l 32))) ∧ Kept No w w' := by
  have hsz := strOf_size l
  refine (Tryd.strings_Trim_one (strOf l) 32 (by decide) w (by omega)).mono fun e w' ⟨he, hw⟩ => ⟨he.trans (by rw [strOf_list]; rfl), ?_⟩
  rcases hw with rfl | rfl
  · exact Kept.refl No _
  · exact (Kept.refl No _).drew
def okR (r : Nat) : Bool := plainR r || markR r
theorem validV_eq (l : List UInt8) : validV l = (Lib.validD l && (!(l == []) && (decide ((rns l).length ≤ 24) && (!Lib.contains l [32, 32] && ((Lib.trimB l 32 == l) && (rns l).all okR))))) := rfl
def VaRel (l : List UInt8) (k : Nat) (w0 : World) (wr : World) : Prop := ∃ pos : Nat, (rns l).all okR = (rest l pos).all okR ∧ It l k pos w0 wr
set_option maxHeartbeats 8000000 in
theorem valid_any {l : List UInt8} (hl : l.length ≤ 100000) {w : World} (hV : VS w) : Calls Tryd.prog 13 #[.string (strOf l)] w fun e w' => e = .returned (.bool (validV l)) ∧ Kept No w w' := by
  have hsz := strOf_size l
  have HVS := Lib.hid (vstr_any (show l.length ≤ 1000000 by omega) hV)
  have HCN := Lib.hid (fun w => count_any (show l.length ≤ 1000000 by omega) w)
  have HTW := Lib.hid (fun w (h : VS w) => two_any (show l.length ≤ 1000000 by omega) h)
  have HTR := Lib.hid (fun w => trim_any (show l.length ≤ 1000000 by omega) w)
  have HV := Lib.hid hV
  have hR := validV_eq l
  have hrl := rns_len l
  obtain ⟨v1, h1⟩ : ∃ v, Lib.validD l = v := ⟨_, rfl⟩
  obtain ⟨v4, h4⟩ : ∃ v, Lib.contains l [32, 32] = v := ⟨_, rfl⟩
  rw [h1, h4] at hR
  rw [h1] at HVS
  rw [h4] at HTW
  clear h1 h4 hV
  have fin : ∀ w1, Kept No w w1 → True := fun _ _ => trivial
  clear fin
  cases v1
  · have HR := Lib.hid (show validV l = false by rw [hR]; rfl)
    clear hR hl hrl HTW
    go_enter Tryd.func13, Tryd.ntmps13
    go_wp2_with fail
    refine HVS.out.mono ?_
    rintro e w1 ⟨rfl, hk⟩
    have HK1 := Lib.hid hk
    clear hk
    go_wp2_with fail
    go_ret
    exact ⟨by rw [HR.out]; rfl, HK1.out⟩
  have e0 : ({ data := #[] } : ByteArray).toList = [] := by rw [ByteArray.toList_eq]
  by_cases h2 : l = []
  · have e2 : ((strOf l).toList == []) = true := by rw [strOf_toList, h2]; rfl
    have e2' : ((strOf l).toList == ({ data := #[] } : ByteArray).toList) = true := by rw [e0, strOf_toList, h2]; rfl
    have HR := Lib.hid (show validV l = false by rw [hR, h2]; rfl)
    clear hR hl hrl HTW h2 e0
    go_enter Tryd.func13, Tryd.ntmps13
    go_wp2_with fail
    refine HVS.out.mono ?_
    rintro e w1 ⟨rfl, hk⟩
    have HK1 := Lib.hid hk
    clear hk
    go_wp2_with fail
    go_ret
    exact ⟨by rw [HR.out]; rfl, HK1.out⟩
  have e2 : ((strOf l).toList == []) = false := by rw [strOf_toList, beq_eq_false_iff_ne]; exact h2
  have e2' : ((strOf l).toList == ({ data := #[] } : ByteArray).toList) = false := by rw [e0, strOf_toList, beq_eq_false_iff_ne]; exact h2
  clear e0
  have hn2 : (l == []) = false := by rw [beq_eq_false_iff_ne]; exact h2
  rw [hn2] at hR
  obtain ⟨n, hn⟩ : ∃ n, (rns l).length = n := ⟨_, rfl⟩
  rw [hn] at hR HCN hrl
  clear hn2 h2 hn
  by_cases h3 : 24 < n
  · have d3 : decide (24 < n) = true := decide_eq_true h3
    have d3' : decide ((24 : Int) < (n : Int)) = true := decide_eq_true (by omega)
    have HR := Lib.hid (show validV l = false by rw [hR, decide_eq_false (show ¬ n ≤ 24 by omega)]; rfl)
    clear hR hl HTW h3
    go_enter Tryd.func13, Tryd.ntmps13
    go_wp2_with fail
    refine HVS.out.mono ?_
    rintro e w1 ⟨rfl, hk⟩
    have HK1 := Lib.hid hk
    clear hk
    go_wp2_with fail
    refine (HCN.out _).mono ?_
    rintro e w2 ⟨rfl, hk⟩
    have HK2 := Lib.hid (HK1.out.and hk)
    clear hk
    go_wp2_with fail
    go_ret
    exact ⟨by rw [HR.out]; rfl, HK2.out⟩
  have d3 : decide (24 < n) = false := decide_eq_false h3
  have d3' : decide ((24 : Int) < (n : Int)) = false := decide_eq_false (by omega)
  rw [decide_eq_true (show n ≤ 24 by omega)] at hR
  clear h3
  cases v4
  case true =>
    have HR := Lib.hid (show validV l = false by rw [hR]; rfl)
    clear hR hl
    go_enter Tryd.func13, Tryd.ntmps13
    go_wp2_with fail
    refine HVS.out.mono ?_
    rintro e w1 ⟨rfl, hk⟩
    have HK1 := Lib.hid hk
    clear hk
    go_wp2_with fail
    refine (HCN.out _).mono ?_
    rintro e w2 ⟨rfl, hk⟩
    have HK2 := Lib.hid (HK1.out.and hk)
    clear hk
    go_wp2_with fail
    refine (HTW.out _ (HV.out.no HK2.out)).mono ?_
    rintro e w3 ⟨rfl, hk⟩
    have HK3 := Lib.hid (HK2.out.and hk)
    clear hk
    go_wp2_with fail
    go_ret
    exact ⟨by rw [HR.out]; rfl, HK3.out⟩
  by_cases h5 : Lib.trimB l 32 = l
  case neg =>
    have e5 : ((strOf (Lib.trimB l 32)).toList == (strOf l).toList) = false := by rw [strOf_toList, strOf_toList, beq_eq_false_iff_ne]; exact h5
    have hn5 : (Lib.trimB l 32 == l) = false := by rw [beq_eq_false_iff_ne]; exact h5
    have HR := Lib.hid (show validV l = false by rw [hR, hn5]; rfl)
    clear hR hl hn5 h5
    go_enter Tryd.func13, Tryd.ntmps13
    go_wp2_with fail
    refine HVS.out.mono ?_
    rintro e w1 ⟨rfl, hk⟩
    have HK1 := Lib.hid hk
    clear hk
    go_wp2_with fail
    refine (HCN.out _).mono ?_
    rintro e w2 ⟨rfl, hk⟩
    have HK2 := Lib.hid (HK1.out.and hk)
    clear hk
    go_wp2_with fail
    refine (HTW.out _ (HV.out.no HK2.out)).mono ?_
    rintro e w3 ⟨rfl, hk⟩
    have HK3 := Lib.hid (HK2.out.and hk)
    clear hk
    go_wp2_with fail
    refine (HTR.out _).mono ?_
    rintro e w4 ⟨rfl, hk⟩
    have HK4 := Lib.hid (HK3.out.and hk)
    clear hk
    go_wp2_with fail
    go_ret
    exact ⟨by rw [HR.out]; rfl, HK4.out⟩
  have e5 : ((strOf (Lib.trimB l 32)).toList == (strOf l).toList) = true := by rw [h5]; simp
  have hn5 : (Lib.trimB l 32 == l) = true := by rw [h5]; simp
  have HR := Lib.hid (show validV l = (rns l).all okR by rw [hR, hn5]; simp)
  have HT5 := Lib.hid h5
  clear hR hl hn5 h5
  go_enter Tryd.func13, Tryd.ntmps13
  go_wp2_with fail
  refine HVS.out.mono ?_
  rintro e w1 ⟨rfl, hk⟩
  have HK1 := Lib.hid hk
  clear hk
  go_wp2_with fail
  refine (HCN.out _).mono ?_
  rintro e w2 ⟨rfl, hk⟩
  have HK2 := Lib.hid (HK1.out.and hk)
  clear hk
  go_wp2_with fail
  refine (HTW.out _ (HV.out.no HK2.out)).mono ?_
  rintro e w3 ⟨rfl, hk⟩
  have HK3 := Lib.hid (HK2.out.and hk)
  clear hk
  go_wp2_with fail
  refine (HTR.out _).mono ?_
  rintro e w4 ⟨rfl, hk⟩
  have HK4 := Lib.hid (HK3.out.and hk)
  have HIT := Lib.hid (It.start l w4)
  clear hk HVS HCN HTW HTR
  go_wp2_with fail
  go_loopw [] (fun wr => VaRel l w4.heap.size w4 wr) (fun wr => l.length - wr.iterPos w4.heap.size)
  case atStart => exact ⟨0, by rw [rest_zero], HIT.out⟩
  case round =>
    obtain ⟨pos, hn, hI⟩ := hrel
    have HI := Lib.hid hI
    have hip := hI.pos
    by_cases hp : pos < l.length
    · have hp2 : pos < (strOf l).size := by omega
      have hnx : ∀ ty, (Instr.next (.pointer (some ⟨w4.heap.size, 0, none⟩)) true ty).run Tryd.prog wr = _ := fun ty => Lib.run_next_any_at wr w4.heap.size (strOf l) pos ty hI.it hp2
      have hd : Utf8.decode (strOf l) pos = dec l pos := rfl
      rw [hd] at hnx
      obtain ⟨d, hdd⟩ : ∃ d, dec l pos = d := ⟨_, rfl⟩
      have hsc : Scal d.1 := by rw [← hdd]; exact dec_scal l pos
      have hdp : 1 ≤ d.2 := by rw [← hdd]; exact dec_pos l pos
      have hra := rest_at hp
      rw [hdd] at hnx hra
      obtain ⟨c, wd⟩ := d
      have hra : rest l pos = c :: rest l (pos + wd) := hra
      have hdp : 1 ≤ wd := hdp
      have hsc : Scal c := hsc
      have HI2 := Lib.hid (HI.out.next (pos + wd))
      rw [hra, List.all_cons] at hn
      have HP := Lib.hid (And.intro hp hdp)
      have HPL := Lib.hid (fun w (h : VS w) => plain_any hsc.le h)
      have HMK := Lib.hid (fun w => marks_any hsc w)
      have hok : okR c = (plainR c || markR c) := rfl
      obtain ⟨u, hu⟩ : ∃ u, plainR c = u := ⟨_, rfl⟩
      obtain ⟨v, hv⟩ : ∃ v, markR c = v := ⟨_, rfl⟩
      rw [hu, hv] at hok
      rw [hu] at HPL
      rw [hv] at HMK
      have HS := Lib.hid (show (rns l).all okR = ((u || v) && (rest l (pos + wd)).all okR) by rw [hn, hok])
      clear hI hn hd hdd hsc hra hp hdp hok hu hv
      cases u
      · cases v
        · have HRF := Lib.hid (show validV l = false by rw [HR.out, HS.out]; rfl)
          go_wp2_with fail
          refine (HPL.out _ (HV.out.no (HK4.out.and HI2.out.kept))).mono ?_
          rintro e w5 ⟨rfl, hk⟩
          have HI3 := Lib.hid (HI2.out.no hk)
          clear hk
          go_wp2_with fail
          refine (HMK.out _).mono ?_
          rintro e w6 ⟨rfl, hk⟩
          have HI4 := Lib.hid (HI3.out.no hk)
          clear hk
          go_wp2_with fail
          go_ret
          exact ⟨by rw [HRF.out]; rfl, HK4.out.and HI4.out.kept⟩
        · have HS2 := Lib.hid (show (rns l).all okR = (rest l (pos + wd)).all okR by rw [HS.out]; rfl)
          go_wp2_with fail
          refine (HPL.out _ (HV.out.no (HK4.out.and HI2.out.kept))).mono ?_
          rintro e w5 ⟨rfl, hk⟩
          have HI3 := Lib.hid (HI2.out.no hk)
          clear hk
          go_wp2_with fail
          refine (HMK.out _).mono ?_
          rintro e w6 ⟨rfl, hk⟩
          have HI4 := Lib.hid (HI3.out.no hk)
          clear hk
          go_wp2_with fail
          have hP := HP.out
          have h3 := HI4.out.pos
          refine ⟨⟨pos + wd, HS2.out, HI4.out⟩, ?_⟩
          rw [h3, hip]
          omega
      · have HS2 := Lib.hid (show (rns l).all okR = (rest l (pos + wd)).all okR by rw [HS.out]; rfl)
        clear HMK
        go_wp2_with fail
        refine (HPL.out _ (HV.out.no (HK4.out.and HI2.out.kept))).mono ?_
        rintro e w5 ⟨rfl, hk⟩
        have HI3 := Lib.hid (HI2.out.no hk)
        clear hk
        go_wp2_with fail
        have hP := HP.out
        have h3 := HI3.out.pos
        refine ⟨⟨pos + wd, HS2.out, HI3.out⟩, ?_⟩
        rw [h3, hip]
        omega
    · have hp2 : ¬ pos < (strOf l).size := by omega
      have hnx : ∀ ty, (Instr.next (.pointer (some ⟨w4.heap.size, 0, none⟩)) true ty).run Tryd.prog wr = _ := fun ty => Lib.run_next_end_at wr w4.heap.size (strOf l) pos ty hI.it hp2
      have HS := Lib.hid (show validV l = true by rw [HR.out, hn, rest_end hp]; rfl)
      clear hI hn hp
      go_wp2_with fail
      go_ret
      exact ⟨by rw [HS.out]; rfl, HK4.out.and HI.out.kept⟩
/-- the key of a name, or the error -/
theorem keyOf_any {l : List UInt8} (hl : l.length ≤ 100000) {w : World} (hV : VS w) : Calls Tryd.prog 33 #[.string (strOf l)] w fun e w' => e = .returned (.tuple #[.string (strOf (if validV l = true then keyS l else [])), .int .i64 (if validV l = true then 0 else 2)]) ∧ Kept No w w' := by
  have HVA := Lib.hid (valid_any hl hV)
  have HKE := Lib.hid (fun w (h : VS w) => key_any hl h)
  have HV := Lib.hid hV
  obtain ⟨v, hv⟩ : ∃ v, validV l = v := ⟨_, rfl⟩
  rw [hv] at HVA ⊢
  clear hv hl hV
  cases v
  · rw [if_neg (by decide), if_neg (by decide)]
    go_enter Tryd.func33, Tryd.ntmps33
    go_wp2_with fail
    refine HVA.out.mono ?_
    rintro e w1 ⟨rfl, hk⟩
    have HK := Lib.hid hk
    clear hk
    go_wp2_with fail
    go_ret2
    exact ⟨rfl, HK.out⟩
  · rw [if_pos rfl, if_pos rfl]
    go_enter Tryd.func33, Tryd.ntmps33
    go_wp2_with fail
    refine HVA.out.mono ?_
    rintro e w1 ⟨rfl, hk⟩
    have HK := Lib.hid hk
    clear hk
    go_wp2_with fail
    refine (HKE.out _ (HV.out.no HK.out)).mono ?_
    rintro e w2 ⟨rfl, hk⟩
    have HK2 := Lib.hid (HK.out.and hk)
    clear hk
    go_wp2_with fail
    go_ret2
    exact ⟨rfl, HK2.out⟩
end Go.Proofs.YtoahnfmbmpllaaaDoor
