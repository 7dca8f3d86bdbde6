/-
  Ticks: the walk of TicksHolds.
-/
import Derived.Test.YtchoepcfaadpfaaDoorWalkG
namespace Go.Proofs.YtchoepcfaadpfaaDoor
open Go.RowKit Go.Zn Go.Sort Go.Lib

set_option maxHeartbeats 1600000 in
theorem walk_holds_big (t n : Int) (s : ByteArray) (w : World) (h : 60 < s.size) (hm : s.size ≤ maxLen) (hl : Laid w) : Calls Tryd.prog 7 #[.int .u64 t, .int .u64 n, .string s] w fun e w' => e = .returned (.bool true) ∧ Kept No w w' := by
  have HL := Lib.hid hl
  have d1 : decide ((60 : Int) < (s.size : Int)) = true := by simp; omega
  unfold maxLen at hm
  clear hl h
  go_enter Tryd.func7, Tryd.ntmps7
  go_wp2_with fail
  refine (known_ok _ HL.out).mono ?_
  rintro e w' ⟨rfl, hk⟩
  go_wp2_with fail
  go_ret
  exact ⟨rfl, hk⟩
/-- the cases of the two times -/
def HCase (t n : Int) : Prop :=
  (t = 18446744073709551615 ∧ addT t n = 18446744073709551615 ∧ leftT t n = 18446744073709551615 ∧ dueT t n = false) ∨
  (t ≠ 18446744073709551615 ∧ ((addT t n = 18446744073709551615) ∨ (addT t n ≠ 18446744073709551615 ∧ sinceT (addT t n) n = t)) ∧
    ((leftT t n = 0 ∧ dueT t n = true ∧ addT n 0 = n) ∨ (0 < leftT t n ∧ dueT t n = false ∧ addT n (leftT t n) = t ∧ addT n (leftT t n - 1) = t - 1 ∧ dueT t t = true ∧ dueT t (t - 1) = false)))
theorem hcase {t n : Int} (ht : Tm t) (hn : Tm n) : HCase t n := by
  obtain ⟨h1, h2⟩ := ht
  obtain ⟨h3, h4⟩ := hn
  unfold HCase
  by_cases h : t = 18446744073709551615
  · left
    refine ⟨h, ?_, by simp [leftT, h], by simp [dueT, h]⟩
    unfold addT; split <;> omega
  · right
    refine ⟨h, ?_, ?_⟩
    · by_cases h5 : addT t n = 18446744073709551615
      · exact .inl h5
      · refine .inr ⟨h5, ?_⟩
        have e : addT t n = t + n := by unfold addT at h5 ⊢; split at h5; exact absurd rfl h5; rw [if_neg (by assumption)]
        rw [e]
        unfold sinceT
        split <;> omega
    · by_cases h5 : t ≤ n
      · left
        refine ⟨by simp [leftT, h, sinceT, h5], by simp [dueT, h, h5], ?_⟩
        unfold addT; rw [if_neg (by omega)]; omega
      · right
        have e : leftT t n = t - n := by simp [leftT, h, sinceT, h5]
        refine ⟨by omega, by simp [dueT, h5], ?_, ?_, by simp [dueT, h], ?_⟩
        · rw [e]; unfold addT; rw [if_neg (by omega)]; omega
        · rw [e]; unfold addT; rw [if_neg (by omega)]; omega
        · simp only [dueT, decide_eq_false_iff_not]
          omega
theorem add_low {t n : Int} (ht : Tm t) (hn : Tm n) : ¬ addT t n < t ∧ ¬ addT t n < n ∧ addT n t = addT t n := by
  obtain ⟨h1, h2⟩ := ht
  obtain ⟨h3, h4⟩ := hn
  unfold addT
  refine ⟨?_, ?_, ?_⟩
  · split <;> omega
  · split <;> omega
  · split
    · rw [if_pos (by omega)]
    · rw [if_neg (by omega)]; omega
set_option maxRecDepth 100000 in
set_option maxHeartbeats 6400000 in
theorem walk_holds_few (t n : Int) (u : Nat) (htu : t = u) (s : ByteArray) (w : World) (ht : Tm t) (hn : Tm n) (h : s.size ≤ 60) (hl : Laid w) : Calls Tryd.prog 7 #[.int .u64 t, .int .u64 n, .string s] w fun e w' => e = .returned (.bool true) ∧ Kept No w w' := by
  have HL := Lib.hid hl
  have HTU := Lib.hid htu
  have HU := Lib.hid (show u ≤ 18446744073709551615 by have := ht.2; omega)
  have HT := Lib.hid ht
  have HN := Lib.hid hn
  have HC := Lib.hid (hcase ht hn)
  obtain ⟨hl1, hl2, hl3⟩ := add_low ht hn
  obtain ⟨L, hL⟩ : ∃ L, addT t n = L := ⟨_, rfl⟩
  have HLT := Lib.hid (show Tm L by rw [← hL]; exact addT_tm ht hn)
  have dl1 : decide (L < t) = false := by rw [hL] at hl1; simp; omega
  have dl2 : decide (L < n) = false := by rw [hL] at hl2; simp; omega
  have HLE := Lib.hid hL
  have HLS := Lib.hid hl3
  have d1 : decide ((60 : Int) < (s.size : Int)) = false := by simp; omega
  have hz : s.size ≤ 1000 := by omega
  have dLL : (L != L) = false := by simp
  clear hl htu ht hn hl1 hl2 hl3 hL
  have hx : (∃ x, x ≤ 18446744073709551615 ∧ s = bs (txt x)) ∨ (∀ x, x ≤ 18446744073709551615 → s ≠ bs (txt x)) := by
    by_cases hx : ∃ x, x ≤ 18446744073709551615 ∧ s = bs (txt x)
    · exact .inl hx
    · exact .inr fun x h1 h2 => hx ⟨x, h1, h2⟩
  go_enter Tryd.func7, Tryd.ntmps7
  go_wp2_with fail
  refine (text_any t u HTU.out HU.out _ HL.out).mono ?_
  rintro e w1 ⟨rfl, hk⟩
  have HK1 := Lib.hid hk
  clear hk
  go_wp2_with fail
  refine (parses_yes _ u HU.out rfl t HTU.out _ (HL.out.kept HK1.out)).mono ?_
  rintro e w2 ⟨rfl, hk⟩
  have HK2 := Lib.hid (HK1.out.and hk)
  clear hk HK1
  go_wp2_with fail
  rcases hx with ⟨x, hx1, hx2⟩ | hx
  case' inl =>
    have HX1 := Lib.hid hx1
    have ds : ((bs (txt x)).toList != s.toList) = false := by rw [hx2]; simp
    have ds2 : ((bs (txt x)).toList == s.toList) = true := by rw [hx2]; simp
    have HX2 := Lib.hid hx2
    clear hx1 hx2
    refine (parse_yes s x HX1.out HX2.out _ (HL.out.kept HK2.out)).mono ?_
    rintro e w3 ⟨a, ha, rfl, hk⟩
    have HA := Lib.hid ha
    have HK3 := Lib.hid (HK2.out.and hk)
    clear hk ha
    go_wp2_with fail
    refine (text_any a x HA.out HX1.out _ (HL.out.kept HK3.out)).mono ?_
    rintro e w4 ⟨rfl, hk⟩
    have HK4 := Lib.hid (HK3.out.and hk)
    clear hk HK3
    go_wp2_with fail
    clear ds ds2 HX1 HX2 HA
  case' inr =>
    have HX := Lib.hid hx
    clear hx
    refine (parse_no s hz HX.out _ (HL.out.kept HK2.out)).mono ?_
    rintro e w4 ⟨rfl, hk⟩
    have HK4 := Lib.hid (HK2.out.and hk)
    clear hk
    go_wp2_with fail
    clear HX
  all_goals
    clear HK2
    refine (add_is t n L HLE.out _ HT.out HN.out).mono ?_
    rintro e w' ⟨rfl, rfl⟩
    rcases HC.out with ⟨c1, c2, c3, c4⟩ | ⟨c1, c2, c3⟩
    · -- never
      rw [HLE.out] at c2
      have dn : (L != 18446744073709551615) = false := by rw [c2]; simp
      have dt : (t == 18446744073709551615) = true := by rw [c1]; simp
      have C3 := Lib.hid c3
      have C4 := Lib.hid c4
      clear c1 c2 c3 c4
      go_wp2_with fail
      refine (add_is n t L (by rw [HLS.out, HLE.out]) _ HN.out HT.out).mono ?_
      rintro e w' ⟨rfl, rfl⟩
      go_wp2_with fail
      refine (left_is t n 18446744073709551615 C3.out _ HT.out HN.out).mono ?_
      rintro e w' ⟨rfl, rfl⟩
      go_wp2_with fail
      refine (due_is t n false C4.out _ HT.out HN.out).mono ?_
      rintro e w' ⟨rfl, rfl⟩
      go_wp2_with fail
      refine (known_ok _ (HL.out.kept HK4.out)).mono ?_
      rintro e w' ⟨rfl, hk⟩
      go_wp2_with fail
      go_ret
      exact ⟨rfl, HK4.out.and hk⟩
    · have dt : (t == 18446744073709551615) = false := by simp; exact c1
      rw [HLE.out] at c2
      have C3 := Lib.hid c3
      clear c1 c3
      rcases c2 with c2 | ⟨c2, c4⟩
      case' inl =>
        have dn : (L != 18446744073709551615) = false := by rw [c2]; simp
        clear c2
        go_wp2_with fail
        clear dn
      case' inr =>
        have dn : (L != 18446744073709551615) = true := by simp; exact c2
        have C4 := Lib.hid c4
        have dtt : (t != t) = false := by simp
        clear c2 c4
        go_wp2_with fail
        refine (since_is L n t C4.out _ HLT.out HN.out).mono ?_
        rintro e w' ⟨rfl, rfl⟩
        go_wp2_with fail
        clear dn C4 dtt
      all_goals
        refine (add_is n t L (by rw [HLS.out, HLE.out]) _ HN.out HT.out).mono ?_
        rintro e w' ⟨rfl, rfl⟩
        go_wp2_with fail
        rcases C3.out with ⟨c1, c2, c3⟩ | ⟨c1, c2, c3, c4, c5, c6⟩
        · have C1 := Lib.hid c1
          have C2 := Lib.hid c2
          have C5 := Lib.hid c3
          clear c1 c2 c3
          refine (left_is t n 0 C1.out _ HT.out HN.out).mono ?_
          rintro e w' ⟨rfl, rfl⟩
          go_wp2_with fail
          refine (due_is t n true C2.out _ HT.out HN.out).mono ?_
          rintro e w' ⟨rfl, rfl⟩
          go_wp2_with fail
          refine (add_is n 0 n C5.out _ HN.out ⟨by omega, by omega⟩).mono ?_
          rintro e w' ⟨rfl, rfl⟩
          go_wp2_with fail
          refine (due_is t n true C2.out _ HT.out HN.out).mono ?_
          rintro e w' ⟨rfl, rfl⟩
          go_wp2_with fail
          refine (known_ok _ (HL.out.kept HK4.out)).mono ?_
          rintro e w' ⟨rfl, hk⟩
          go_wp2_with fail
          go_ret
          exact ⟨rfl, HK4.out.and hk⟩
        · obtain ⟨f, hf⟩ : ∃ f, leftT t n = f := ⟨_, rfl⟩
          have hft : Tm f := by rw [← hf]; exact leftT_tm HT.out HN.out
          rw [hf] at c1 c3 c4
          obtain ⟨hf1, hf2⟩ := hft
          have hf0 : (f == 0) = false := by simp; omega
          have ht1 : Tm (t - 1) := by
            have := HT.out.2
            have h3 : addT n f ≤ t := by omega
            have h4 := (add_low HN.out ⟨hf1, hf2⟩).2.1
            exact ⟨by omega, by omega⟩
          have HF := Lib.hid hf
          have C2 := Lib.hid c2
          have C3' := Lib.hid c3
          have C4' := Lib.hid c4
          have C5 := Lib.hid c5
          have C6 := Lib.hid c6
          have HT1 := Lib.hid ht1
          clear c2 c3 c4 c5 c6 hf ht1
          refine (left_is t n f HF.out _ HT.out HN.out).mono ?_
          rintro e w' ⟨rfl, rfl⟩
          go_wp2_with fail
          refine (due_is t n false C2.out _ HT.out HN.out).mono ?_
          rintro e w' ⟨rfl, rfl⟩
          go_wp2_with fail
          refine (add_is n f t C3'.out _ HN.out ⟨by omega, by omega⟩).mono ?_
          rintro e w' ⟨rfl, rfl⟩
          go_wp2_with fail
          refine (due_is t t true C5.out _ HT.out HT.out).mono ?_
          rintro e w' ⟨rfl, rfl⟩
          go_wp2_with fail
          refine (add_is n (f - 1) (t - 1) C4'.out _ HN.out ⟨by omega, by omega⟩).mono ?_
          rintro e w' ⟨rfl, rfl⟩
          go_wp2_with fail
          refine (due_is t (t - 1) false C6.out _ HT.out HT1.out).mono ?_
          rintro e w' ⟨rfl, rfl⟩
          go_wp2_with fail
          refine (known_ok _ (HL.out.kept HK4.out)).mono ?_
          rintro e w' ⟨rfl, hk⟩
          go_wp2_with fail
          go_ret
          exact ⟨rfl, HK4.out.and hk⟩
theorem walk_holds (t n : Int) (s : ByteArray) (w : World) (ht : Tm t) (hn : Tm n) (hs : s.size ≤ maxLen) (hl : Laid w) : Calls Tryd.prog 7 #[.int .u64 t, .int .u64 n, .string s] w fun e w' => e = .returned (.bool true) ∧ Kept No w w' := by
  by_cases h : 60 < s.size
  · exact walk_holds_big t n s w h hs hl
  · obtain ⟨u, hu⟩ := Int.eq_ofNat_of_zero_le ht.1
    exact walk_holds_few t n u hu s w ht hn (by omega) hl
end Go.Proofs.YtchoepcfaadpfaaDoor
