/-
  Ticks: the reference's Parse; parses.
-/
import Derived.Test.YtchoepcfaadpfaaDoorWalkD
namespace Go.Proofs.YtchoepcfaadpfaaDoor
open Go.RowKit Go.Zn Go.Sort Go.Lib

set_option maxHeartbeats 800000 in
theorem parses_yes (s : ByteArray) (t : Nat) (ht : t ≤ 18446744073709551615) (hs : s = bs (txt t)) (want : Int) (hw : want = t) (w : World) (hl : Laid w) :
    Calls Tryd.prog 22 #[.string s, .int .u64 want, .int .i64 0] w fun e w' => e = .returned (.bool true) ∧ Kept No w w' := by
  have HL := Lib.hid hl
  have HS := Lib.hid hs
  have HT := Lib.hid ht
  have HW := Lib.hid hw
  clear hl hs ht hw
  go_enter Tryd.func22, Tryd.ntmps22
  go_wp2_with fail
  refine (parse_yes s t HT.out HS.out w HL.out).mono ?_
  rintro e w1 ⟨a, ha, rfl, hk⟩
  obtain rfl : a = want := by rw [HW.out]; exact ha
  have HK := Lib.hid hk
  clear ha hk
  go_wp2_with fail
  go_ret
  exact ⟨rfl, HK.out⟩
set_option maxHeartbeats 800000 in
theorem parses_no (s : ByteArray) (hz : s.size ≤ 1000) (hs : ∀ t, t ≤ 18446744073709551615 → s ≠ bs (txt t)) (w : World) (hl : Laid w) :
    Calls Tryd.prog 22 #[.string s, .int .u64 0, .int .i64 6] w fun e w' => e = .returned (.bool true) ∧ Kept No w w' := by
  have HL := Lib.hid hl
  have HS := Lib.hid hs
  clear hl hs
  go_enter Tryd.func22, Tryd.ntmps22
  go_wp2_with fail
  refine (parse_no s hz HS.out w HL.out).mono ?_
  rintro e w1 ⟨rfl, hk⟩
  have HK := Lib.hid hk
  clear hk
  go_wp2_with fail
  go_ret
  exact ⟨rfl, HK.out⟩

def RPost (l : List UInt8) (w : World) (e : Ending) (w' : World) : Prop :=
  ((∃ a : Int, a = scan 0 20 l ∧ scan 0 20 l ≠ 18446744073709551615 ∧ l = txt (scan 0 20 l) ∧ e = .returned (.tuple #[.int .u64 a, .bool true])) ∨
    ((scan 0 20 l = 18446744073709551615 ∨ l ≠ txt (scan 0 20 l)) ∧ e = .returned (.tuple #[.int .u64 0, .bool false]))) ∧ w = w'
def RRel (l : List UInt8) (n i : Value) : Prop := ∃ (j v : Nat) (a : Int), i = .int .i64 (j : Nat) ∧ n = .int .u64 a ∧ a = v ∧ j ≤ l.length ∧ j ≤ 20 ∧ v < 18446744073709551616 ∧ scan v (20 - j) (l.drop j) = scan 0 20 l
theorem get_byte (s : ByteArray) (j : Nat) (h : j < s.size) : s.data.toList.drop j = s[j] :: s.data.toList.drop (j + 1) := by
  rw [List.drop_eq_getElem_cons (by exact h)]
  rfl
set_option maxRecDepth 100000 in
set_option maxHeartbeats 1600000 in
theorem rparse_any (s : ByteArray) (hz : s.size ≤ 1000) (hs : s.data.toList ≠ neverT) (w : World) :
    Calls Tryd.prog 21 #[.string s] w (RPost s.data.toList w) := by
  have d : (s.toList == [110, 101, 118, 101, 114]) = false := by
    rw [beq_eq_false_iff_ne, toList_data]
    exact hs
  have hsz : s.data.toList.length = s.size := rfl
  have HSZ := Lib.hid hsz
  obtain ⟨l, hl⟩ : ∃ l, s.data.toList = l := ⟨_, rfl⟩
  have HLL := Lib.hid hl
  rw [hl]
  clear hs hsz hl
  go_enter Tryd.func21, Tryd.ntmps21
  go_wp2_with fail
  go_loop [4, 5] (fun n i => RRel l n i) (fun _ i => 20 - (RowKit.intOf i).toNat)
  case atStart => exact ⟨0, 0, 0, rfl, rfl, rfl, Nat.zero_le _, by omega, by omega, by simp⟩
  case round =>
    obtain ⟨j, v, a, rfl, rfl, ha, hj, hj20, hv, hsc⟩ := hrel
    have hjs : j ≤ s.size := by rw [← HSZ.out, HLL.out]; exact hj
    have ha0 : 0 ≤ a := by omega
    have ha1 : a ≤ 18446744073709551615 := by omega
    have HA := Lib.hid ha
    have HV := Lib.hid hv
    have HSC := Lib.hid hsc
    clear ha hj hv hsc
    by_cases hd : ∃ h1 : j < s.size, j < 20 ∧ 48 ≤ s[j].toNat ∧ s[j].toNat ≤ 57
    · obtain ⟨h1, h2, h3, h4⟩ := hd
      have hg := get_byte s j h1
      rw [HLL.out] at hg
      have hnew : scan ((10 * v + (s[j].toNat - 48)) % 18446744073709551616) (20 - (j + 1)) (l.drop (j + 1)) = scan 0 20 l := by
        rw [← HSC.out, hg]
        obtain ⟨m, hm⟩ : ∃ m, 20 - j = m + 1 := ⟨20 - j - 1, by omega⟩
        have hm2 : 20 - (j + 1) = m := by omega
        rw [hm, hm2]
        conv => rhs; unfold scan
        rw [if_pos ⟨h3, h4⟩]
      have HN := Lib.hid hnew
      have H34 := Lib.hid (And.intro h3 h4)
      have h3' : 48 ≤ (s[j].toNat : Int) := by omega
      have h4' : (s[j].toNat : Int) ≤ 57 := by omega
      have d1 : decide (j < s.size) = true := by simp; exact h1
      have d2 : decide ((j : Int) < 20) = true := by simp; omega
      have H1 := Lib.hid h1
      have H2 := Lib.hid h2
      clear hg hnew h3 h4
      go_wp2_with fail
      refine ⟨⟨j + 1, _, _, by go_num, rfl, ?_, by have := H1.out; have := HSZ.out; rw [HLL.out] at this; omega, H2.out, Nat.mod_lt _ (by decide), HN.out⟩, by have := H2.out; simp [RowKit.intOf]; omega⟩
      have ha := HA.out
      have h34 := H34.out
      rw [IntKind.wrap_u64, IntKind.wrap_u64, ha]
      omega
    · have hR : v = scan 0 20 l := by
        rw [← HSC.out]
        by_cases h1 : j < s.size
        · have hg := get_byte s j h1
          rw [HLL.out] at hg
          rw [hg]
          by_cases h2 : j < 20
          · obtain ⟨m, hm⟩ : ∃ m, 20 - j = m + 1 := ⟨20 - j - 1, by omega⟩
            rw [hm]
            unfold scan
            rw [if_neg (fun h => hd ⟨h1, h2, h⟩)]
          · have hm : 20 - j = 0 := by omega
            rw [hm]
            unfold scan
            rfl
        · rw [List.drop_eq_nil_of_le (by have := HSZ.out; rw [HLL.out] at this; omega)]
          cases 20 - j with
          | zero => rfl
          | succ m => rfl
      have hx : (¬ j < s.size) ∨ (∃ h1 : j < s.size, ((j : Int) = 20) ∨ ((j : Int) < 20 ∧ ((s[j].toNat : Int) < 48 ∨ (48 ≤ (s[j].toNat : Int) ∧ 57 < (s[j].toNat : Int))))) := by
        by_cases h1 : j < s.size
        · right
          refine ⟨h1, ?_⟩
          by_cases h2 : j < 20
          · right
            refine ⟨by omega, ?_⟩
            by_cases h3 : 48 ≤ s[j].toNat
            · right
              have h4 : ¬ s[j].toNat ≤ 57 := fun h4 => hd ⟨h1, h2, h3, h4⟩
              exact ⟨by omega, by omega⟩
            · left; omega
          · left; omega
        · exact .inl h1
      have HR := Lib.hid hR
      have hv1 : v ≤ 18446744073709551615 := by have := HV.out; omega
      have HV1 := Lib.hid hv1
      clear hR hd hv1
      have hend : a = 18446744073709551615 ∨ (a ≠ 18446744073709551615 ∧ txt v = l) ∨ (a ≠ 18446744073709551615 ∧ txt v ≠ l) := by
        by_cases h1 : a = 18446744073709551615
        · exact .inl h1
        · by_cases h2 : txt v = l
          · exact .inr (.inl ⟨h1, h2⟩)
          · exact .inr (.inr ⟨h1, h2⟩)
      rcases hend with hn | ⟨hn, ht⟩ | ⟨hn, ht⟩
      · have dn : (a == 18446744073709551615) = true := by simp; exact hn
        have HN := Lib.hid hn
        clear hn
        rcases hx with h1 | ⟨h1, h2 | ⟨h2, h3 | ⟨h3, h4⟩⟩⟩
        all_goals
          go_wp2_with fail
          go_ret2
          refine ⟨.inr ⟨.inl ?_, rfl⟩, rfl⟩
          have := HN.out
          have := HA.out
          rw [← HR.out]
          omega
      · have dn : (a == 18446744073709551615) = false := by simp; exact hn
        have ds : ((bs (txt v)).toList != s.toList) = false := by rw [bs_list, toList_data, HLL.out, ht]; simp
        have ds2 : ((bs (txt v)).toList == s.toList) = true := by rw [bs_list, toList_data, HLL.out, ht]; simp
        have HN := Lib.hid hn
        have HT := Lib.hid ht
        clear hn ht
        rcases hx with h1 | ⟨h1, h2 | ⟨h2, h3 | ⟨h3, h4⟩⟩⟩
        all_goals
          go_wp2_with fail
          refine (rtext_any a v HA.out HV1.out _).mono ?_
          rintro e w' ⟨rfl, rfl⟩
          go_wp2_with fail
          go_ret2
          refine ⟨.inl ⟨a, by rw [← HR.out]; exact HA.out, ?_, by rw [← HR.out]; exact HT.out.symm, rfl⟩, rfl⟩
          have := HN.out
          have := HA.out
          rw [← HR.out]
          omega
      · have dn : (a == 18446744073709551615) = false := by simp; exact hn
        have hb : ((bs (txt v)).toList == s.toList) = false := by rw [bs_list, toList_data, HLL.out, beq_eq_false_iff_ne]; exact ht
        have ds : ((bs (txt v)).toList != s.toList) = true := by rw [bne, hb]; rfl
        have HN := Lib.hid hn
        have HT := Lib.hid ht
        clear hn ht
        rcases hx with h1 | ⟨h1, h2 | ⟨h2, h3 | ⟨h3, h4⟩⟩⟩
        all_goals
          go_wp2_with fail
          refine (rtext_any a v HA.out HV1.out _).mono ?_
          rintro e w' ⟨rfl, rfl⟩
          go_wp2_with fail
          go_ret2
          exact ⟨.inr ⟨.inr (by rw [← HR.out]; exact fun h => HT.out h.symm), rfl⟩, rfl⟩
set_option maxHeartbeats 800000 in
theorem rparse_never (s : ByteArray) (hs : s.data.toList = neverT) (w : World) :
    Calls Tryd.prog 21 #[.string s] w fun e w' => e = .returned (.tuple #[.int .u64 18446744073709551615, .bool true]) ∧ w = w' := by
  have d : (s.toList == [110, 101, 118, 101, 114]) = true := by
    rw [toList_data, hs]
    rfl
  clear hs
  go_enter Tryd.func21, Tryd.ntmps21
  go_wp2_with fail
  go_ret2
  exact ⟨rfl, rfl⟩
theorem rparse_yes (s : ByteArray) (t : Nat) (ht : t ≤ 18446744073709551615) (hz : s.size ≤ 1000) (hs : s = bs (txt t)) (w : World) :
    Calls Tryd.prog 21 #[.string s] w fun e w' => ∃ a : Int, a = t ∧ e = .returned (.tuple #[.int .u64 a, .bool true]) ∧ w = w' := by
  by_cases h : t = 18446744073709551615
  · refine (rparse_never s (by rw [hs, h, txt_never]; rfl) w).mono ?_
    rintro e w' ⟨he, hw⟩
    exact ⟨_, by rw [h]; rfl, he, hw⟩
  · have hx : s.data.toList = decDigits t ++ [116] := by rw [hs, txt_num h]; rfl
    have hsc : scan 0 20 s.data.toList = t := by rw [hx]; exact scan_dec t ht
    refine (rparse_any s hz (by rw [hx]; exact num_ne_never t) w).mono ?_
    rintro e w' ⟨⟨a, h1, h2, h3, he⟩ | ⟨h1, he⟩, hw⟩
    · rw [hsc] at h1
      exact ⟨a, h1, he, hw⟩
    · exfalso
      rw [hsc] at h1
      rcases h1 with h1 | h1
      · exact h h1
      · rw [hx] at h1
        exact h1 (txt_num h).symm
theorem rparse_no (s : ByteArray) (hz : s.size ≤ 1000) (hs : ∀ t, t ≤ 18446744073709551615 → s ≠ bs (txt t)) (w : World) :
    Calls Tryd.prog 21 #[.string s] w fun e w' => e = .returned (.tuple #[.int .u64 0, .bool false]) ∧ w = w' := by
  have hnv : s.data.toList ≠ neverT := fun e => hs 18446744073709551615 (Nat.le_refl _) (by rw [txt_never, ← e, bs_of])
  refine (rparse_any s hz hnv w).mono ?_
  rintro e w' ⟨⟨a, h1, h2, h3, he⟩ | ⟨h1, he⟩, hw⟩
  · exfalso
    have hlt := scan_lt s.data.toList 0 20 (by decide)
    refine hs (scan 0 20 s.data.toList) (by omega) ?_
    rw [← h3, bs_of]
  · exact ⟨he, hw⟩
end Go.Proofs.YtchoepcfaadpfaaDoor
