/-
  Ticks: Parse of the program and of the reference.
-/
import Derived.Test.YtchoepcfaadpfaaDoorWalkC
namespace Go.Proofs.YtchoepcfaadpfaaDoor
open Go.RowKit Go.Zn Go.Sort Go.Lib

theorem bs_list (l : List UInt8) : (bs l).toList = l := by rw [toList_data]; rfl
theorem bs_data (l : List UInt8) : (bs l).data.toList = l := rfl
theorem bs_inj {l r : List UInt8} (h : bs l = bs r) : l = r := by rw [← bs_data l, h, bs_data]
theorem bs_of (s : ByteArray) : bs s.data.toList = s := by cases s; rfl
theorem trim_any (s : ByteArray) (w : World) (hs : s.size ≤ 1000) : Calls Tryd.prog 28 #[.string s, .string ⟨#[116]⟩] w fun e w' => e = .returned (.string (bs (trimSuffix s.data.toList [116]))) ∧ w' = w :=
  Tryd.strings_TrimSuffix s ⟨#[116]⟩ w (by omega)
theorem trim_le (l : List UInt8) : (trimSuffix l [116]).length ≤ l.length := by
  unfold trimSuffix
  split
  · simp
  · exact Nat.le_refl _
set_option maxHeartbeats 800000 in
theorem parse_yes (s : ByteArray) (t : Nat) (ht : t ≤ 18446744073709551615) (hs : s = bs (txt t)) (w : World) (hl : Laid w) :
    Calls Tryd.prog 23 #[.string s] w fun e w' => ∃ a : Int, a = t ∧ e = .returned (.tuple #[.int .u64 a, .int .i64 0]) ∧ Kept No w w' := by
  have HL := Lib.hid hl
  have HS := Lib.hid hs
  have HT := Lib.hid ht
  have hz : s.size ≤ 1000 := by rw [hs, bs_size]; have := txt_length t ht; omega
  by_cases h : t = 18446744073709551615
  · have d : (s.toList == [110, 101, 118, 101, 114]) = true := by rw [hs, h, txt_never, bs_list]; rfl
    have H := Lib.hid h
    clear hs hl ht h
    go_enter Tryd.func23, Tryd.ntmps23
    go_wp2_with fail
    go_ret2
    exact ⟨18446744073709551615, by rw [H.out]; rfl, rfl, Kept.refl _ _⟩
  · have hx := txt_num h
    have d : (s.toList == [110, 101, 118, 101, 114]) = false := by
      rw [hs, hx, bs_list, beq_eq_false_iff_ne]
      exact num_ne_never t
    have HX := Lib.hid hx
    have d2 : ((bs (txt t)).toList == s.toList) = true := by rw [hs]; simp
    clear hs hl ht h hx
    go_enter Tryd.func23, Tryd.ntmps23
    go_wp2_with fail
    refine (trim_any s _ hz).mono ?_
    rintro e w' ⟨rfl, rfl⟩
    have hp : parseUintB 64 (bs (trimSuffix s.data.toList [116])).data.toList = .ok t := by
      rw [HS.out, HX.out, bs_data, bs_data, trim_dec]
      exact parse_dec t HT.out
    have HP := Lib.hid hp
    have hzt : (bs (trimSuffix s.data.toList [116])).size ≤ 1000 := by rw [bs_size]; have := trim_le s.data.toList; have : s.data.toList.length = s.size := rfl; omega
    clear hp
    go_wp2_with fail
    refine (parseUint_yes _ t HP.out hzt _).mono ?_
    rintro e w1 ⟨a, ha, rfl, hk⟩
    have HA := Lib.hid ha
    have HK := Lib.hid hk
    have HL1 := Lib.hid (HL.out.kept hk)
    clear ha hk
    go_wp2_with fail
    refine (text_any a t HA.out HT.out _ HL1.out).mono ?_
    rintro e w2 ⟨rfl, hk2⟩
    have HK2 := Lib.hid hk2
    clear hk2
    go_wp2_with fail
    go_ret2
    exact ⟨a, HA.out, rfl, HK.out.and HK2.out⟩
set_option maxHeartbeats 800000 in
theorem parse_no (s : ByteArray) (hz : s.size ≤ 1000) (hs : ∀ t, t ≤ 18446744073709551615 → s ≠ bs (txt t)) (w : World) (hl : Laid w) :
    Calls Tryd.prog 23 #[.string s] w fun e w' => e = .returned (.tuple #[.int .u64 0, .int .i64 6]) ∧ Kept No w w' := by
  have HL := Lib.hid hl
  have HS := Lib.hid hs
  have d : (s.toList == [110, 101, 118, 101, 114]) = false := by
    rw [beq_eq_false_iff_ne]
    intro e
    refine hs 18446744073709551615 (Nat.le_refl _) ?_
    rw [txt_never, ← bs_of s, ← toList_data, e]
    rfl
  have hzt : (bs (trimSuffix s.data.toList [116])).size ≤ 1000 := by rw [bs_size]; have := trim_le s.data.toList; have : s.data.toList.length = s.size := rfl; omega
  clear hs hl
  go_enter Tryd.func23, Tryd.ntmps23
  go_wp2_with fail
  refine (trim_any s _ hz).mono ?_
  rintro e w' ⟨rfl, rfl⟩
  go_wp2_with fail
  by_cases h : ∃ u, parseUintB 64 (bs (trimSuffix s.data.toList [116])).data.toList = .ok u
  · obtain ⟨u, hp⟩ := h
    have HP := Lib.hid hp
    have hu : u ≤ 18446744073709551615 := parseUintB_le hp
    have HU := Lib.hid hu
    clear hp hu
    refine (parseUint_yes _ u HP.out hzt _).mono ?_
    rintro e w1 ⟨a, ha, rfl, hk⟩
    have d2 : ((bs (txt u)).toList == s.toList) = false := by
      rw [beq_eq_false_iff_ne]
      intro e
      refine HS.out u HU.out ?_
      rw [← bs_of s, ← toList_data, ← e, bs_list]
    have HA := Lib.hid ha
    have HK := Lib.hid hk
    have HL1 := Lib.hid (HL.out.kept hk)
    clear ha hk
    go_wp2_with fail
    refine (text_any a u HA.out HU.out _ HL1.out).mono ?_
    rintro e w2 ⟨rfl, hk2⟩
    have HK2 := Lib.hid hk2
    clear hk2
    go_wp2_with fail
    go_ret2
    exact ⟨rfl, HK.out.and HK2.out⟩
  · have HN := Lib.hid (fun u hu => h ⟨u, hu⟩)
    clear h
    refine (parseUint_no _ HN.out hzt _ HL.out).mono ?_
    rintro e w1 ⟨v, N, rfl, hk⟩
    have HK := Lib.hid hk
    clear hk
    go_wp2_with fail
    go_ret2
    exact ⟨rfl, HK.out⟩
end Go.Proofs.YtchoepcfaadpfaaDoor
