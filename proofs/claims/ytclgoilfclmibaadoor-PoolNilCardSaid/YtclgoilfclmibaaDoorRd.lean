/-
  Pool: nil and zero pools.
-/
import Derived.Test.YtclgoilfclmibaaDoorRc
set_option linter.unusedVariables false
set_option linter.unusedSimpArgs false
namespace Go.Proofs.YtclgoilfclmibaaDoor
open Go Go.RowKit Go.Zn
attribute [local go_sem] Oper.semAt_some

theorem encode_zero {w : World} {p : Value} (h : PZero w p) : Calls Tryd.prog 13 #[p] w fun e w' => e = .returned (.tuple #[.slice none 0 0, .int .i64 1]) ∧ w = w' := by
  have HZ := Lib.hid (zero_yes h)
  clear h
  go_enter Tryd.func13, Tryd.ntmps13
  go_wp2_with fail
  refine HZ.out.mono ?_
  rintro e w' ⟨rfl, rfl⟩
  go_wp2_with fail
  go_ret2
  exact ⟨rfl, rfl⟩
set_option maxRecDepth 100000 in
set_option maxHeartbeats 4000000 in
theorem poolnil_any (i : Int) (s : List UInt8) (k : Int) (w : World) : Calls Tryd.prog 4 #[.int .i64 i, .string (strOf s), .int .i64 k] w fun e w' => e = .returned (.bool true) ∧ Kept No w w' := by
  obtain ⟨n, hn⟩ : ∃ n, s.length = n := ⟨_, rfl⟩
  have hsz : (strOf s).size = n := by rw [strOf_size]; exact hn
  have HN := Lib.hid hn
  clear hn
  by_cases h100 : 100 < n
  · have h1 : (100 : Int) < (n : Int) := by omega
    clear h100
    go_enter Tryd.func4, Tryd.ntmps4
    go_wp2_with fail
    refine (known_any _).mono ?_
    rintro e w2 ⟨rfl, hk⟩
    have HK := Lib.hid hk
    clear hk
    go_wp2_with fail
    go_ret
    exact ⟨rfl, HK.out⟩
  have h1 : ¬ ((100 : Int) < (n : Int)) := by omega
  clear h100
  go_enter Tryd.func4, Tryd.ntmps4
  go_wp2_with fail
  have HZ0 := Lib.hid (heap_alloc_new w (.cells #[.slice none 0 0, .map none] 52))
  have HZ1 := Lib.hid (heap_alloc_new (w.alloc (.cells #[.slice none 0 0, .map none] 52)) (.cells #[.pointer none, .pointer (some ⟨w.heap.size, 0, none⟩)] 40))
  have HKA := Lib.hid (((Kept.refl No w).alloc (.cells #[.slice none 0 0, .map none] 52)).alloc (.cells #[.pointer none, .pointer (some ⟨w.heap.size, 0, none⟩)] 40))
  have HZ0 := Lib.hid (obj_alloc HZ0.out (.cells #[.pointer none, .pointer (some ⟨w.heap.size, 0, none⟩)] 40))
  obtain ⟨W, hW⟩ : ∃ W, (w.alloc (.cells #[.slice none 0 0, .map none] 52)).alloc (.cells #[.pointer none, .pointer (some ⟨w.heap.size, 0, none⟩)] 40) = W := ⟨_, rfl⟩
  have hz : (w.alloc (.cells #[.slice none 0 0, .map none] 52)).heap.size = w.heap.size + 1 := by simp
  rw [hW] at HZ0 HZ1 HKA ⊢
  rw [hz] at HZ1
  obtain ⟨z, hzz⟩ : ∃ z, w.heap.size = z := ⟨_, rfl⟩
  rw [hzz] at HZ0 HZ1 ⊢
  clear hW hz hzz
  go_loopw [21] (fun iv wr => ∃ j : Nat, iv = .int .i64 (j : Nat) ∧ j ≤ 2 ∧ Kept No W wr) (fun iv _ => 2 - (intOf iv).toNat)
  case atStart => exact ⟨0, rfl, by decide, Kept.refl No W⟩
  case round =>
    obtain ⟨j, rfl, hj, hk⟩ := hrel
    have HK := Lib.hid hk
    have hg := hk.obj HZ1.out (not_no _)
    obtain rfl | rfl | rfl : j = 0 ∨ j = 1 ∨ j = 2 := by omega
    · have x0 : wr.cell? ⟨z + 1, 0, none⟩ = some (.pointer none) := obj_cell hg 0
      have hpz : PZero wr (.pointer none) := (Or.inl rfl)
      have HPZ := Lib.hid hpz
      have HEN := Lib.hid (encode_zero hpz)
      have HLE := Lib.hid (len_zero hpz)
      have HSH := Lib.hid (shows_any (p := .pointer none) (i := i) (er := 1) sm_zC (zc_at wr) (fun W2 hk2 => show_no (card_zero (hpz.no hk2) i)))
      have HFI := Lib.hid (fun W2 (hk2 : Kept No wr W2) => finds_any (find_zero (hpz.no hk2) s))
      have HCA := Lib.hid (fun W2 (hk2 : Kept No wr W2) => cards_zero (hpz.no hk2))
      have HSE := Lib.hid (fun W2 (hk2 : Kept No wr W2) => select_zero k i (hpz.no hk2))
      clear hk hg hpz
      go_wp2_with fail
      refine HEN.out.mono ?_
      rintro e w2 ⟨rfl, rfl⟩
      go_wp2_with fail
      refine HLE.out.mono ?_
      rintro e w2 ⟨rfl, rfl⟩
      go_wp2_with fail
      refine HSH.out.mono ?_
      rintro e w3 ⟨rfl, hk3⟩
      have HK3 := Lib.hid hk3
      clear hk3
      go_wp2_with fail
      refine (HFI.out _ HK3.out).mono ?_
      rintro e w4 ⟨rfl, rfl⟩
      go_wp2_with fail
      refine (HCA.out _ HK3.out).mono ?_
      rintro e w4 ⟨rfl, rfl⟩
      go_wp2_with fail
      refine (HSE.out _ HK3.out).mono ?_
      rintro e w4 ⟨rfl, rfl⟩
      go_wp2_with fail
      exact ⟨⟨1, rfl, by decide, HK.out.and HK3.out⟩, by simp [intOf]⟩
    · have x0 : wr.cell? ⟨z + 1, 1, none⟩ = some (.pointer (some ⟨z, 0, none⟩)) := obj_cell hg 1
      have hpz : PZero wr (.pointer (some ⟨z, 0, none⟩)) := (Or.inr ⟨z, rfl, hk.obj HZ0.out (not_no _)⟩)
      have HPZ := Lib.hid hpz
      have HEN := Lib.hid (encode_zero hpz)
      have HLE := Lib.hid (len_zero hpz)
      have HSH := Lib.hid (shows_any (p := .pointer (some ⟨z, 0, none⟩)) (i := i) (er := 1) sm_zC (zc_at wr) (fun W2 hk2 => show_no (card_zero (hpz.no hk2) i)))
      have HFI := Lib.hid (fun W2 (hk2 : Kept No wr W2) => finds_any (find_zero (hpz.no hk2) s))
      have HCA := Lib.hid (fun W2 (hk2 : Kept No wr W2) => cards_zero (hpz.no hk2))
      have HSE := Lib.hid (fun W2 (hk2 : Kept No wr W2) => select_zero k i (hpz.no hk2))
      clear hk hg hpz
      go_wp2_with fail
      refine HEN.out.mono ?_
      rintro e w2 ⟨rfl, rfl⟩
      go_wp2_with fail
      refine HLE.out.mono ?_
      rintro e w2 ⟨rfl, rfl⟩
      go_wp2_with fail
      refine HSH.out.mono ?_
      rintro e w3 ⟨rfl, hk3⟩
      have HK3 := Lib.hid hk3
      clear hk3
      go_wp2_with fail
      refine (HFI.out _ HK3.out).mono ?_
      rintro e w4 ⟨rfl, rfl⟩
      go_wp2_with fail
      refine (HCA.out _ HK3.out).mono ?_
      rintro e w4 ⟨rfl, rfl⟩
      go_wp2_with fail
      refine (HSE.out _ HK3.out).mono ?_
      rintro e w4 ⟨rfl, rfl⟩
      go_wp2_with fail
      exact ⟨⟨2, rfl, by decide, HK.out.and HK3.out⟩, by simp [intOf]⟩
    · clear hk hg
      go_wp2_with fail
      refine (known_any _).mono ?_
      rintro e w2 ⟨rfl, hk⟩
      have HK2 := Lib.hid hk
      clear hk
      go_wp2_with fail
      go_ret
      exact ⟨rfl, HKA.out.and (HK.out.and HK2.out)⟩
end Go.Proofs.YtclgoilfclmibaaDoor
