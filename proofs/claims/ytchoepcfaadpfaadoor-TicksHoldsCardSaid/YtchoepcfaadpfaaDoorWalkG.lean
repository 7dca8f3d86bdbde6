/-
  Ticks: the examples of the chapter; the laws' walks.
-/
import Derived.Test.YtchoepcfaadpfaaDoorWalkE
import Derived.Test.YtchoepcfaadpfaaDoorWalkF
namespace Go.Proofs.YtchoepcfaadpfaaDoor
open Go.RowKit Go.Zn Go.Sort Go.Lib

theorem add_is (t n r : Int) (hr : addT t n = r) (w : World) (ht : Tm t) (hn : Tm n) : Calls Tryd.prog 8 #[.int .u64 t, .int .u64 n] w fun e w' => e = .returned (.int .u64 r) ∧ w = w' := by
  subst hr; exact add_any t n w ht hn
theorem since_is (t n r : Int) (hr : sinceT t n = r) (w : World) (ht : Tm t) (hn : Tm n) : Calls Tryd.prog 10 #[.int .u64 t, .int .u64 n] w fun e w' => e = .returned (.int .u64 r) ∧ w = w' := by
  subst hr; exact since_any t n w ht hn
theorem left_is (t n r : Int) (hr : leftT t n = r) (w : World) (ht : Tm t) (hn : Tm n) : Calls Tryd.prog 13 #[.int .u64 t, .int .u64 n] w fun e w' => e = .returned (.int .u64 r) ∧ w = w' := by
  subst hr; exact left_any t n w ht hn
theorem due_is (t n : Int) (r : Bool) (hr : dueT t n = r) (w : World) (ht : Tm t) (hn : Tm n) : Calls Tryd.prog 15 #[.int .u64 t, .int .u64 n] w fun e w' => e = .returned (.bool r) ∧ w = w' := by
  subst hr; exact due_any t n w ht hn
theorem text_is (a : Int) (u : Nat) (l : List UInt8) (hl' : txt u = l) (ha : a = u) (hu : u ≤ 18446744073709551615) (w : World) (hl : Laid w) :
    Calls Tryd.prog 19 #[.int .u64 a] w fun e w' => e = .returned (.string (bs l)) ∧ Kept No w w' := by
  subst hl'; exact text_any a u ha hu w hl
theorem tms_new (w : World) (n : Nat) (c : Array Value) (X : Nat → Int) (hn : n ≤ 1000) (hb : ∀ k, k < n → Tm (X k)) (hc : ∀ k, k < n → c[k]? = some (.int .u64 (X k))) (t : TypeId) : Tms (w.alloc (.cells c t)) (.slice (some ⟨w.heap.size, 0, none⟩) n n) n X :=
  ⟨hn, hb, .inr ⟨w.heap.size, 0, n, rfl, fun k hk => by rw [Nat.zero_add, obj_cell (heap_alloc_new w _)]; exact hc k hk⟩⟩
theorem tms_nil (w : World) (X : Nat → Int) : Tms w (.slice none 0 0) 0 X := ⟨by omega, fun k hk => by omega, .inl ⟨rfl, _, _, rfl⟩⟩
def X4 (k : Nat) : Int := if k = 0 then 9 else if k = 2 then 18446744073709551615 else 4
def X1 (_ : Nat) : Int := 18446744073709551615
theorem X4_tm (k : Nat) : Tm (X4 k) := by unfold X4 Tm; split; omega; split <;> omega
theorem first4 : FirstIs 4 X4 1 0 := by
  refine .inl ⟨1, by omega, rfl, rfl, ⟨by decide +kernel, fun k hk => ?_⟩, fun k hk hg => ?_⟩
  · have h1 : X4 1 = 4 := rfl
    rw [h1]
    unfold X4
    split
    · omega
    · split <;> omega
  · obtain rfl : k = 0 := by omega
    exact hg.2 1 (by omega) (by decide +kernel)
theorem first1 : FirstIs 1 X1 0 9 := .inr ⟨rfl, rfl, fun _ _ hg => hg.1 rfl⟩
theorem first0 (X : Nat → Int) : FirstIs 0 X 0 9 := .inr ⟨rfl, rfl, fun k hk => by omega⟩
theorem txt70 : txt 70 = [55, 48, 116] := by
  rw [txt_num (by decide), decDigits_two (by decide) (by decide)]
  rfl
theorem last_txt {t : Nat} {l : List UInt8} {c : UInt8} (h : txt t = l ++ [c]) (hc : c ≠ 114) : c = 116 ∧ decDigits t = l ∧ t ≠ 18446744073709551615 := by
  by_cases e : t = 18446744073709551615
  · rw [e, txt_never] at h
    have := congrArg List.getLast? h
    simp [neverT] at this
    exact absurd this.symm hc
  · rw [txt_num e] at h
    have h2 := List.append_inj' h rfl
    have h3 : (116 : UInt8) = c := by simpa using h2.2
    exact ⟨h3.symm, h2.1, e⟩
theorem no070 (t : Nat) (ht : t ≤ 18446744073709551615) : (⟨#[48, 55, 48, 116]⟩ : ByteArray) ≠ bs (txt t) := fun h => by
  have h1 : txt t = [48, 55, 48] ++ [116] := (bs_inj (show bs ([48, 55, 48] ++ [116]) = bs (txt t) from h)).symm
  obtain ⟨_, h2, h3⟩ := last_txt h1 (by decide)
  have h4 := parse_dec t ht
  rw [h2] at h4
  have h5 : parseUintB 64 [48, 55, 48] = .ok 70 := by decide +kernel
  rw [h5] at h4
  obtain rfl : 70 = t := by injection h4
  rw [txt70] at h1
  cases h1
theorem no70 (t : Nat) (_ht : t ≤ 18446744073709551615) : (⟨#[55, 48]⟩ : ByteArray) ≠ bs (txt t) := fun h => by
  have h1 : txt t = [55] ++ [48] := (bs_inj (show bs ([55] ++ [48]) = bs (txt t) from h)).symm
  have := (last_txt h1 (by decide)).1
  cases this
theorem tm_never : Tm 18446744073709551615 := ⟨by omega, by omega⟩
set_option maxRecDepth 100000 in
set_option maxHeartbeats 3200000 in
theorem known_ok (w : World) (hl : Laid w) : Calls Tryd.prog 12 #[] w fun e w' => e = .returned (.bool true) ∧ Kept No w w' := by
  have HL := Lib.hid hl
  clear hl
  go_enter Tryd.func12, Tryd.ntmps12
  go_wp2_with fail
  refine (add_is _ _ 12 (by decide +kernel) _ (by unfold Tm; omega) (by unfold Tm; omega)).mono ?_
  rintro e w' ⟨rfl, rfl⟩
  go_wp2_with fail
  refine (add_is _ _ 18446744073709551615 (by decide +kernel) _ (by unfold Tm; omega) (by unfold Tm; omega)).mono ?_
  rintro e w' ⟨rfl, rfl⟩
  go_wp2_with fail
  refine (add_is _ _ 18446744073709551615 (by decide +kernel) _ (by unfold Tm; omega) (by unfold Tm; omega)).mono ?_
  rintro e w' ⟨rfl, rfl⟩
  go_wp2_with fail
  refine (since_is _ _ 5 (by decide +kernel) _ (by unfold Tm; omega) (by unfold Tm; omega)).mono ?_
  rintro e w' ⟨rfl, rfl⟩
  go_wp2_with fail
  refine (since_is _ _ 0 (by decide +kernel) _ (by unfold Tm; omega) (by unfold Tm; omega)).mono ?_
  rintro e w' ⟨rfl, rfl⟩
  go_wp2_with fail
  refine (since_is _ _ 18446744073709551614 (by decide +kernel) _ (by unfold Tm; omega) (by unfold Tm; omega)).mono ?_
  rintro e w' ⟨rfl, rfl⟩
  go_wp2_with fail
  refine (left_is _ _ 5 (by decide +kernel) _ (by unfold Tm; omega) (by unfold Tm; omega)).mono ?_
  rintro e w' ⟨rfl, rfl⟩
  go_wp2_with fail
  refine (left_is _ _ 0 (by decide +kernel) _ (by unfold Tm; omega) (by unfold Tm; omega)).mono ?_
  rintro e w' ⟨rfl, rfl⟩
  go_wp2_with fail
  refine (left_is _ _ 18446744073709551615 (by decide +kernel) _ (by unfold Tm; omega) (by unfold Tm; omega)).mono ?_
  rintro e w' ⟨rfl, rfl⟩
  go_wp2_with fail
  refine (due_is _ _ true (by decide +kernel) _ (by unfold Tm; omega) (by unfold Tm; omega)).mono ?_
  rintro e w' ⟨rfl, rfl⟩
  go_wp2_with fail
  refine (due_is _ _ false (by decide +kernel) _ (by unfold Tm; omega) (by unfold Tm; omega)).mono ?_
  rintro e w' ⟨rfl, rfl⟩
  go_wp2_with fail
  refine (due_is _ _ false (by decide +kernel) _ (by unfold Tm; omega) (by unfold Tm; omega)).mono ?_
  rintro e w' ⟨rfl, rfl⟩
  go_wp2_with fail
  have hn := ((Kept.refl No w).alloc (.cells #[.int .u64 9, .int .u64 4, .int .u64 18446744073709551615, .int .u64 4] 23))
  refine (first_yes (n := 4) (X := X4) (tms_new w 4 _ X4 (by omega) (fun k _ => X4_tm k) (fun k hk => by match k, hk with | 0, _ => rfl | 1, _ => rfl | 2, _ => rfl | 3, _ => rfl) _) 1 0 first4).mono ?_
  rintro e w1 ⟨rfl, rfl⟩
  obtain ⟨w1, hw1⟩ : ∃ w1, w.alloc (.cells #[.int .u64 9, .int .u64 4, .int .u64 18446744073709551615, .int .u64 4] 23) = w1 := ⟨_, rfl⟩
  rw [hw1] at hn ⊢
  have HN1 := Lib.hid hn
  clear hw1 hn
  go_wp2_with fail
  have hn := ((Kept.refl No w1).alloc (.cells #[.int .u64 18446744073709551615] 23))
  refine (first_yes (n := 1) (X := X1) (tms_new w1 1 _ X1 (by omega) (fun k _ => tm_never) (fun k hk => by match k, hk with | 0, _ => rfl) _) 0 9 first1).mono ?_
  rintro e w2 ⟨rfl, rfl⟩
  obtain ⟨w2, hw2⟩ : ∃ w2, w1.alloc (.cells #[.int .u64 18446744073709551615] 23) = w2 := ⟨_, rfl⟩
  rw [hw2] at hn ⊢
  have HN2 := Lib.hid (HN1.out.and hn)
  clear hw2 hn
  go_wp2_with fail
  refine (first_yes (n := 0) (X := X1) (tms_nil w2 X1) 0 9 (first0 X1)).mono ?_
  rintro e w3 ⟨rfl, rfl⟩
  have d1 : ((bs [55, 48, 116]).toList == [55, 48, 116]) = true := by rw [bs_list]; rfl
  have d2 : ((bs neverT).toList == [110, 101, 118, 101, 114]) = true := by rw [bs_list]; rfl
  go_wp2_with fail
  refine (text_is _ 70 [55, 48, 116] txt70 rfl (by omega) _ (HL.out.kept HN2.out)).mono ?_
  rintro e w3 ⟨rfl, hk⟩
  have HN3 := Lib.hid (HN2.out.and hk)
  clear hk
  go_wp2_with fail
  refine (text_is _ 18446744073709551615 neverT txt_never rfl (by omega) _ (HL.out.kept HN3.out)).mono ?_
  rintro e w4 ⟨rfl, hk⟩
  have HN4 := Lib.hid (HN3.out.and hk)
  clear hk
  go_wp2_with fail
  refine (parses_yes _ 70 (by omega) (by rw [txt70]; rfl) _ rfl _ (HL.out.kept HN4.out)).mono ?_
  rintro e w5 ⟨rfl, hk⟩
  have HN5 := Lib.hid (HN4.out.and hk)
  clear hk
  go_wp2_with fail
  refine (parses_no _ (by decide) no070 _ (HL.out.kept HN5.out)).mono ?_
  rintro e w6 ⟨rfl, hk⟩
  have HN6 := Lib.hid (HN5.out.and hk)
  clear hk
  go_wp2_with fail
  refine (parses_no _ (by decide) no70 _ (HL.out.kept HN6.out)).mono ?_
  rintro e w7 ⟨rfl, hk⟩
  have HN7 := Lib.hid (HN6.out.and hk)
  clear hk
  go_wp2_with fail
  go_ret
  exact ⟨rfl, HN7.out⟩

set_option maxHeartbeats 1600000 in
theorem walk_adds (t n : Int) (w : World) (ht : Tm t) (hn : Tm n) (hl : Laid w) : Calls Tryd.prog 3 #[.int .u64 t, .int .u64 n] w fun e w' => e = .returned (.bool true) ∧ Kept No w w' := by
  have HL := Lib.hid hl
  have HT := Lib.hid ht
  have HN := Lib.hid hn
  clear hl ht hn
  go_enter Tryd.func3, Tryd.ntmps3
  go_wp2_with fail
  refine (add_any t n _ HT.out HN.out).mono ?_
  rintro e w' ⟨rfl, rfl⟩
  go_wp2_with fail
  refine (radd_any t n _ HT.out HN.out).mono ?_
  rintro e w' ⟨rfl, rfl⟩
  go_wp2_with fail
  refine (since_any t n _ HT.out HN.out).mono ?_
  rintro e w' ⟨rfl, rfl⟩
  go_wp2_with fail
  refine (rsince_any t n _ HT.out HN.out).mono ?_
  rintro e w' ⟨rfl, rfl⟩
  go_wp2_with fail
  refine (known_ok _ HL.out).mono ?_
  rintro e w' ⟨rfl, hk⟩
  go_wp2_with fail
  go_ret
  exact ⟨rfl, hk⟩
set_option maxHeartbeats 1600000 in
theorem walk_due (t n : Int) (w : World) (ht : Tm t) (hn : Tm n) (hl : Laid w) : Calls Tryd.prog 4 #[.int .u64 t, .int .u64 n] w fun e w' => e = .returned (.bool true) ∧ Kept No w w' := by
  have HL := Lib.hid hl
  have HT := Lib.hid ht
  have HN := Lib.hid hn
  clear hl ht hn
  go_enter Tryd.func4, Tryd.ntmps4
  go_wp2_with fail
  refine (left_any t n _ HT.out HN.out).mono ?_
  rintro e w' ⟨rfl, rfl⟩
  go_wp2_with fail
  refine (rleft_any t n _ HT.out HN.out).mono ?_
  rintro e w' ⟨rfl, rfl⟩
  go_wp2_with fail
  refine (due_any t n _ HT.out HN.out).mono ?_
  rintro e w' ⟨rfl, rfl⟩
  go_wp2_with fail
  refine (rdue_any t n _ HT.out HN.out).mono ?_
  rintro e w' ⟨rfl, rfl⟩
  go_wp2_with fail
  refine (known_ok _ HL.out).mono ?_
  rintro e w' ⟨rfl, hk⟩
  go_wp2_with fail
  go_ret
  exact ⟨rfl, hk⟩
set_option maxHeartbeats 1600000 in
theorem walk_first_big (ad : Option Addr) (len cap : Nat) (w : World) (h : 40 < len) (hm : len ≤ maxLen) (hl : Laid w) : Calls Tryd.prog 5 #[.slice ad len cap] w fun e w' => e = .returned (.bool true) ∧ Kept No w w' := by
  have HL := Lib.hid hl
  have d1 : decide ((40 : Int) < (len : Int)) = true := by simp; omega
  unfold maxLen at hm
  clear hl h
  go_enter Tryd.func5, Tryd.ntmps5
  go_wp2_with fail
  refine (known_ok _ HL.out).mono ?_
  rintro e w' ⟨rfl, hk⟩
  go_wp2_with fail
  go_ret
  exact ⟨rfl, hk⟩
set_option maxHeartbeats 1600000 in
theorem walk_first (v : Value) (n : Nat) (X : Nat → Int) (w : World) (h : Tms w v n X) (hn : n ≤ 40) (hl : Laid w) : Calls Tryd.prog 5 #[v] w fun e w' => e = .returned (.bool true) ∧ Kept No w w' := by
  obtain ⟨ad, cap, rfl⟩ := h.slice
  have HL := Lib.hid hl
  have H := Lib.hid h
  have d1 : decide ((40 : Int) < (n : Int)) = false := by simp; omega
  clear hl h
  go_enter Tryd.func5, Tryd.ntmps5
  go_wp2_with fail
  refine (rfirst_any H.out).mono ?_
  rintro e w1 ⟨i, no, rfl, hf, q, rfl⟩
  have HF := Lib.hid hf
  clear hf
  go_wp2_with fail
  refine (first_yes (H.out.kept ((Kept.refl No w).drewN q)) i no HF.out).mono ?_
  rintro e w' ⟨rfl, rfl⟩
  go_wp2_with fail
  refine (known_ok _ (HL.out.kept ((Kept.refl No w).drewN q))).mono ?_
  rintro e w' ⟨rfl, hk⟩
  go_wp2_with fail
  go_ret
  exact ⟨rfl, hk.of_drewN⟩
set_option maxHeartbeats 1600000 in
theorem walk_texts_big (t : Int) (s : ByteArray) (w : World) (h : 60 < s.size) (hm : s.size ≤ maxLen) (hl : Laid w) : Calls Tryd.prog 6 #[.int .u64 t, .string s] w fun e w' => e = .returned (.bool true) ∧ Kept No w w' := by
  have HL := Lib.hid hl
  have d1 : decide ((60 : Int) < (s.size : Int)) = true := by simp; omega
  unfold maxLen at hm
  clear hl h
  go_enter Tryd.func6, Tryd.ntmps6
  go_wp2_with fail
  refine (known_ok _ HL.out).mono ?_
  rintro e w' ⟨rfl, hk⟩
  go_wp2_with fail
  go_ret
  exact ⟨rfl, hk⟩
set_option maxHeartbeats 1600000 in
theorem walk_texts (t : Int) (u : Nat) (htu : t = u) (hu : u ≤ 18446744073709551615) (s : ByteArray) (w : World) (h : s.size ≤ 60) (hl : Laid w) : Calls Tryd.prog 6 #[.int .u64 t, .string s] w fun e w' => e = .returned (.bool true) ∧ Kept No w w' := by
  have HL := Lib.hid hl
  have HTU := Lib.hid htu
  have HU := Lib.hid hu
  have d1 : decide ((60 : Int) < (s.size : Int)) = false := by simp; omega
  have hz : s.size ≤ 1000 := by omega
  have db : ((bs (txt u)).toList != (bs (txt u)).toList) = false := by simp
  clear hl htu hu
  by_cases hx : ∃ t, t ≤ 18446744073709551615 ∧ s = bs (txt t)
  · obtain ⟨x, hx1, hx2⟩ := hx
    have HX1 := Lib.hid hx1
    have HX2 := Lib.hid hx2
    clear hx1 hx2
    go_enter Tryd.func6, Tryd.ntmps6
    go_wp2_with fail
    refine (text_any t u HTU.out HU.out _ HL.out).mono ?_
    rintro e w1 ⟨rfl, hk⟩
    have HK := Lib.hid hk
    clear hk
    go_wp2_with fail
    refine (rtext_any t u HTU.out HU.out _).mono ?_
    rintro e w' ⟨rfl, rfl⟩
    go_wp2_with fail
    refine (rparse_yes s x HX1.out hz HX2.out _).mono ?_
    rintro e w' ⟨a, ha, rfl, rfl⟩
    have HA := Lib.hid ha
    clear ha
    go_wp2_with fail
    refine (parses_yes s x HX1.out HX2.out a HA.out _ (HL.out.kept HK.out)).mono ?_
    rintro e w2 ⟨rfl, hk⟩
    have HK2 := Lib.hid (HK.out.and hk)
    clear hk
    go_wp2_with fail
    refine (known_ok _ (HL.out.kept HK2.out)).mono ?_
    rintro e w' ⟨rfl, hk⟩
    go_wp2_with fail
    go_ret
    exact ⟨rfl, HK2.out.and hk⟩
  · have HX := Lib.hid (fun t ht hs => hx ⟨t, ht, hs⟩ : ∀ t, t ≤ 18446744073709551615 → s ≠ bs (txt t))
    clear hx
    go_enter Tryd.func6, Tryd.ntmps6
    go_wp2_with fail
    refine (text_any t u HTU.out HU.out _ HL.out).mono ?_
    rintro e w1 ⟨rfl, hk⟩
    have HK := Lib.hid hk
    clear hk
    go_wp2_with fail
    refine (rtext_any t u HTU.out HU.out _).mono ?_
    rintro e w' ⟨rfl, rfl⟩
    go_wp2_with fail
    refine (rparse_no s hz HX.out _).mono ?_
    rintro e w' ⟨rfl, rfl⟩
    go_wp2_with fail
    refine (parses_no s hz HX.out _ (HL.out.kept HK.out)).mono ?_
    rintro e w2 ⟨rfl, hk⟩
    have HK2 := Lib.hid (HK.out.and hk)
    clear hk
    go_wp2_with fail
    refine (known_ok _ (HL.out.kept HK2.out)).mono ?_
    rintro e w' ⟨rfl, hk⟩
    go_wp2_with fail
    go_ret
    exact ⟨rfl, HK2.out.and hk⟩
end Go.Proofs.YtchoepcfaadpfaaDoor
