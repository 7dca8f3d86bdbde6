/-
  Mana: the letters, and the reference's text of a cost.
-/
import Derived.Test.YtogfjegedfaekaaDoorWalkD
import Derived.Test.YtogfjegedfaekaaDoorLt
set_option linter.unusedVariables false
set_option linter.unusedSimpArgs false
namespace Go.Proofs.YtogfjegedfaekaaDoor
open Go.RowKit Go.Zn Go.Zm
attribute [local go_sem] Oper.semAt_some

theorem letter0 (w : World) : Calls Tryd.prog 34 #[.int .i64 0] w fun e w' => e = .returned (.string (strOf [69])) ∧ w = w' := by
  go_enter Tryd.func34, Tryd.ntmps34
  go_wp2_with fail
  go_ret
  exact ⟨rfl, rfl⟩
theorem letter1 (w : World) : Calls Tryd.prog 34 #[.int .i64 1] w fun e w' => e = .returned (.string (strOf [84])) ∧ w = w' := by
  go_enter Tryd.func34, Tryd.ntmps34
  go_wp2_with fail
  go_ret
  exact ⟨rfl, rfl⟩
theorem letter2 (w : World) : Calls Tryd.prog 34 #[.int .i64 2] w fun e w' => e = .returned (.string (strOf [76])) ∧ w = w' := by
  go_enter Tryd.func34, Tryd.ntmps34
  go_wp2_with fail
  go_ret
  exact ⟨rfl, rfl⟩
theorem letter3 (w : World) : Calls Tryd.prog 34 #[.int .i64 3] w fun e w' => e = .returned (.string (strOf [83])) ∧ w = w' := by
  go_enter Tryd.func34, Tryd.ntmps34
  go_wp2_with fail
  go_ret
  exact ⟨rfl, rfl⟩
theorem dig_slice (r : Nat) (h : r < 10) : (⟨#[48, 49, 50, 51, 52, 53, 54, 55, 56, 57]⟩ : ByteArray).extract r (r + 1) = strOf [UInt8.ofNat (48 + r)] := by
  have h3 : r = 0 ∨ r = 1 ∨ r = 2 ∨ r = 3 ∨ r = 4 ∨ r = 5 ∨ r = 6 ∨ r = 7 ∨ r = 8 ∨ r = 9 := by omega
  rcases h3 with rfl | rfl | rfl | rfl | rfl | rfl | rfl | rfl | rfl | rfl <;> rfl
theorem strOf_app (l r : List UInt8) : strOf l ++ strOf r = strOf (l ++ r) := by
  apply ByteArray.ext
  simp [strOf]
theorem strOf_size (l : List UInt8) : (strOf l).size = l.length := by simp [strOf, ByteArray.size]
theorem strOf_nil : (⟨#[]⟩ : ByteArray) = strOf [] := rfl
def preL (a b c d : Nat) : Nat → List UInt8
  | 0 => []
  | 1 => List.replicate a 69
  | 2 => List.replicate a 69 ++ List.replicate b 84
  | 3 => List.replicate a 69 ++ List.replicate b 84 ++ List.replicate c 76
  | _ => List.replicate a 69 ++ List.replicate b 84 ++ List.replicate c 76 ++ List.replicate d 83
theorem preL_lets (a b c d : Nat) : preL a b c d 4 = lets a b c d := by simp [preL, lets]
theorem pre_up0 (a b c d : Nat) (D : List UInt8) : D ++ preL a b c d 0 ++ List.replicate a 69 = D ++ preL a b c d 1 := by simp [preL]
theorem pre_up1 (a b c d : Nat) (D : List UInt8) : D ++ preL a b c d 1 ++ List.replicate b 84 = D ++ preL a b c d 2 := by simp [preL]
theorem pre_up2 (a b c d : Nat) (D : List UInt8) : D ++ preL a b c d 2 ++ List.replicate c 76 = D ++ preL a b c d 3 := by simp [preL]
theorem pre_up3 (a b c d : Nat) (D : List UInt8) : D ++ preL a b c d 3 ++ List.replicate d 83 = D ++ preL a b c d 4 := by simp [preL]
theorem pre_len (a b c d k : Nat) (ha : a ≤ 20) (hb : b ≤ 20) (hc : c ≤ 20) (hd : d ≤ 20) : (preL a b c d k).length ≤ 80 := by
  match k with
  | 0 => simp [preL]
  | 1 => simp [preL]; omega
  | 2 => simp [preL]; omega
  | 3 => simp [preL]; omega
  | k + 4 => simp [preL]; omega
theorem str_more (l : List UInt8) (x : UInt8) (n : Nat) : strOf (l ++ List.replicate n x) ++ strOf [x] = strOf (l ++ List.replicate (n + 1) x) := by
  rw [strOf_app, List.replicate_succ', List.append_assoc]
def TRel (D : List UInt8) (a b c d : Nat) (o i : Value) : Prop := ∃ k : Nat, ∃ s, i = .int .i64 (k : Nat) ∧ k ≤ 4 ∧ o = .string s ∧ s = strOf (D ++ preL a b c d k)
def NRel (l : List UInt8) (x : UInt8) (m : Nat) (o j : Value) : Prop := ∃ n : Nat, ∃ s, j = .int .i64 (n : Nat) ∧ n ≤ m ∧ o = .string s ∧ s = strOf (l ++ List.replicate n x)
set_option maxRecDepth 100000 in
set_option maxHeartbeats 4000000 in
theorem rtext_ok (a b c d g : Nat) (w : World) (h : cost a b c d g = true) : Calls Tryd.prog 29 #[.agg #[.int .i64 (a : Nat), .int .i64 (b : Nat), .int .i64 (c : Nat), .int .i64 (d : Nat), .int .i64 (g : Nat)]] w fun e w' => e = .returned (.string (strOf (costT a b c d g))) ∧ Kept No w w' := by
  obtain ⟨hX, g1, g2⟩ := cost_out h
  have HSM := Lib.hid (fun W => rsum_any a b c d W (in4_mono hX (by decide)))
  obtain ⟨⟨a1, a2⟩, ⟨b1, b2⟩, ⟨e1, e2⟩, ⟨d1, d2⟩⟩ := in4_out hX
  clear h hX
  obtain ⟨w1, hw1⟩ : ∃ w1, w.alloc (.cells #[.int .i64 (a : Nat), .int .i64 (b : Nat), .int .i64 (c : Nat), .int .i64 (d : Nat), .int .i64 (g : Nat)] 25) = w1 := ⟨_, rfl⟩
  have hb : w1.heap[w.heap.size]? = some (.cells #[.int .i64 (a : Nat), .int .i64 (b : Nat), .int .i64 (c : Nat), .int .i64 (d : Nat), .int .i64 (g : Nat)] 25 (0, 0)) := by rw [← hw1]; exact heap_alloc_new w _
  have HK1 := Lib.hid (show Kept No w w1 by rw [← hw1]; exact (Kept.refl No w).alloc _)
  have c0 := obj_cell hb 0
  have c1 := obj_cell hb 1
  have c2 := obj_cell hb 2
  have c3 := obj_cell hb 3
  have c4 := obj_cell hb 4
  have HB := Lib.hid hb
  clear hb
  by_cases h10 : 10 ≤ g
  · obtain ⟨D, hD⟩ : ∃ D, digs (a == 0 && b == 0 && c == 0 && d == 0) g = D := ⟨_, rfl⟩
    have HDL := Lib.hid (show D.length ≤ 2 by rw [← hD]; exact (dig_ok _ g (by omega)).len)
    have HD := Lib.hid hD
    clear hD
    obtain ⟨q, hq⟩ : ∃ q, g / 10 = q := ⟨_, rfl⟩
    obtain ⟨r, hr⟩ : ∃ r, g % 10 = r := ⟨_, rfl⟩
    have hq' : (g : Int) / 10 = (q : Nat) := by omega
    have hr' : (g : Int) % 10 = (r : Nat) := by omega
    have hq2 : q < 10 := by omega
    have hr2 : r < 10 := by omega
    have hg0 : 0 < g := by omega
    have HH := Lib.hid (show digs (a == 0 && b == 0 && c == 0 && d == 0) g = [UInt8.ofNat (48 + q), UInt8.ofNat (48 + r)] by
      unfold digs
      rw [if_neg (by omega), dec_lt g (by omega), if_neg (by omega), hq, hr])
    clear hq hr
    go_enter Tryd.func29, Tryd.ntmps29
    go_wp2_with fail
    have HX := Lib.hid (show ({ data := #[48, 49, 50, 51, 52, 53, 54, 55, 56, 57] } : ByteArray).extract q (q + 1) ++ ({ data := #[48, 49, 50, 51, 52, 53, 54, 55, 56, 57] } : ByteArray).extract r (r + 1) = strOf (D ++ preL a b c d 0) by rw [dig_slice q hq2, dig_slice r hr2, strOf_app, ← HD.out, HH.out]; rfl)
    go_loop [3, 4] (fun o i => TRel D a b c d o i) (fun _ i => 4 - (intOf i).toNat)
    case atStart => exact ⟨0, _, rfl, by decide, rfl, HX.out⟩
    case round =>
      obtain ⟨k, s, rfl, hk4, rfl, hs⟩ := hrel
      have HS := Lib.hid hs
      have hpl := pre_len a b c d k (by omega) (by omega) (by omega) (by omega)
      have HPL := Lib.hid hpl
      clear hs hpl
      obtain rfl | rfl | rfl | rfl | rfl : k = 0 ∨ k = 1 ∨ k = 2 ∨ k = 3 ∨ k = 4 := by omega
      · go_wp2_with fail
        go_loop [3, 5] (fun o j => NRel (D ++ preL a b c d 0) 69 a o j) (fun _ j => a - (intOf j).toNat)
        case atStart => exact ⟨0, _, rfl, Nat.zero_le _, rfl, by rw [HS.out]; simp⟩
        case round =>
          obtain ⟨n, s, rfl, hn, rfl, hs⟩ := hrel
          have hsz : s.size ≤ 200 := by
            have := HPL.out
            have := HDL.out
            rw [hs, strOf_size]
            simp only [List.length_append, List.length_replicate]
            omega
          have HS2 := Lib.hid hs
          clear hs
          by_cases hlt : n < a
          · have HN := Lib.hid (show s ++ strOf [69] = strOf (D ++ preL a b c d 0 ++ List.replicate (n + 1) 69) by rw [HS2.out, str_more])
            have hx1 : (strOf [69]).size = 1 := rfl
            go_wp2_with fail
            refine (letter0 _).mono ?_
            rintro e w' ⟨rfl, rfl⟩
            go_wp2_with fail
            go_round
            case rel => exact ⟨n + 1, _, by go_num, by omega, rfl, HN.out⟩
            case measure => simp [intOf]; omega
          · have hna : n = a := by omega
            have HN := Lib.hid (show s = strOf (D ++ preL a b c d 1) by rw [HS2.out, hna, pre_up0])
            clear hna
            go_wp2_with fail
            go_round
            case rel => exact ⟨1, _, by go_num, by decide, rfl, HN.out⟩
            case measure => simp [intOf]
      · go_wp2_with fail
        go_loop [3, 5] (fun o j => NRel (D ++ preL a b c d 1) 84 b o j) (fun _ j => b - (intOf j).toNat)
        case atStart => exact ⟨0, _, rfl, Nat.zero_le _, rfl, by rw [HS.out]; simp⟩
        case round =>
          obtain ⟨n, s, rfl, hn, rfl, hs⟩ := hrel
          have hsz : s.size ≤ 200 := by
            have := HPL.out
            have := HDL.out
            rw [hs, strOf_size]
            simp only [List.length_append, List.length_replicate]
            omega
          have HS2 := Lib.hid hs
          clear hs
          by_cases hlt : n < b
          · have HN := Lib.hid (show s ++ strOf [84] = strOf (D ++ preL a b c d 1 ++ List.replicate (n + 1) 84) by rw [HS2.out, str_more])
            have hx1 : (strOf [84]).size = 1 := rfl
            go_wp2_with fail
            refine (letter1 _).mono ?_
            rintro e w' ⟨rfl, rfl⟩
            go_wp2_with fail
            go_round
            case rel => exact ⟨n + 1, _, by go_num, by omega, rfl, HN.out⟩
            case measure => simp [intOf]; omega
          · have hna : n = b := by omega
            have HN := Lib.hid (show s = strOf (D ++ preL a b c d 2) by rw [HS2.out, hna, pre_up1])
            clear hna
            go_wp2_with fail
            go_round
            case rel => exact ⟨2, _, by go_num, by decide, rfl, HN.out⟩
            case measure => simp [intOf]
      · go_wp2_with fail
        go_loop [3, 5] (fun o j => NRel (D ++ preL a b c d 2) 76 c o j) (fun _ j => c - (intOf j).toNat)
        case atStart => exact ⟨0, _, rfl, Nat.zero_le _, rfl, by rw [HS.out]; simp⟩
        case round =>
          obtain ⟨n, s, rfl, hn, rfl, hs⟩ := hrel
          have hsz : s.size ≤ 200 := by
            have := HPL.out
            have := HDL.out
            rw [hs, strOf_size]
            simp only [List.length_append, List.length_replicate]
            omega
          have HS2 := Lib.hid hs
          clear hs
          by_cases hlt : n < c
          · have HN := Lib.hid (show s ++ strOf [76] = strOf (D ++ preL a b c d 2 ++ List.replicate (n + 1) 76) by rw [HS2.out, str_more])
            have hx1 : (strOf [76]).size = 1 := rfl
            go_wp2_with fail
            refine (letter2 _).mono ?_
            rintro e w' ⟨rfl, rfl⟩
            go_wp2_with fail
            go_round
            case rel => exact ⟨n + 1, _, by go_num, by omega, rfl, HN.out⟩
            case measure => simp [intOf]; omega
          · have hna : n = c := by omega
            have HN := Lib.hid (show s = strOf (D ++ preL a b c d 3) by rw [HS2.out, hna, pre_up2])
            clear hna
            go_wp2_with fail
            go_round
            case rel => exact ⟨3, _, by go_num, by decide, rfl, HN.out⟩
            case measure => simp [intOf]
      · go_wp2_with fail
        go_loop [3, 5] (fun o j => NRel (D ++ preL a b c d 3) 83 d o j) (fun _ j => d - (intOf j).toNat)
        case atStart => exact ⟨0, _, rfl, Nat.zero_le _, rfl, by rw [HS.out]; simp⟩
        case round =>
          obtain ⟨n, s, rfl, hn, rfl, hs⟩ := hrel
          have hsz : s.size ≤ 200 := by
            have := HPL.out
            have := HDL.out
            rw [hs, strOf_size]
            simp only [List.length_append, List.length_replicate]
            omega
          have HS2 := Lib.hid hs
          clear hs
          by_cases hlt : n < d
          · have HN := Lib.hid (show s ++ strOf [83] = strOf (D ++ preL a b c d 3 ++ List.replicate (n + 1) 83) by rw [HS2.out, str_more])
            have hx1 : (strOf [83]).size = 1 := rfl
            go_wp2_with fail
            refine (letter3 _).mono ?_
            rintro e w' ⟨rfl, rfl⟩
            go_wp2_with fail
            go_round
            case rel => exact ⟨n + 1, _, by go_num, by omega, rfl, HN.out⟩
            case measure => simp [intOf]; omega
          · have hna : n = d := by omega
            have HN := Lib.hid (show s = strOf (D ++ preL a b c d 4) by rw [HS2.out, hna, pre_up3])
            clear hna
            go_wp2_with fail
            go_round
            case rel => exact ⟨4, _, by go_num, by decide, rfl, HN.out⟩
            case measure => simp [intOf]
      · go_wp2_with fail
        go_ret
        exact ⟨by rw [HS.out, preL_lets, ← HD.out]; rfl, HK1.out⟩
  by_cases hg0 : 0 < g
  · obtain ⟨D, hD⟩ : ∃ D, digs (a == 0 && b == 0 && c == 0 && d == 0) g = D := ⟨_, rfl⟩
    have HDL := Lib.hid (show D.length ≤ 2 by rw [← hD]; exact (dig_ok _ g (by omega)).len)
    have HD := Lib.hid hD
    clear hD
    have HH := Lib.hid (show digs (a == 0 && b == 0 && c == 0 && d == 0) g = [UInt8.ofNat (48 + g)] by
      unfold digs
      rw [if_neg (by omega), dec_lt g (by omega), if_pos (by omega)])
    have hr' : (g : Int) % 10 = (g : Nat) := by omega
    go_enter Tryd.func29, Tryd.ntmps29
    go_wp2_with fail
    have HX := Lib.hid (show ({ data := #[] } : ByteArray) ++ ({ data := #[48, 49, 50, 51, 52, 53, 54, 55, 56, 57] } : ByteArray).extract g (g + 1) = strOf (D ++ preL a b c d 0) by rw [dig_slice g (by omega), strOf_nil, strOf_app, ← HD.out, HH.out]; rfl)
    go_loop [3, 4] (fun o i => TRel D a b c d o i) (fun _ i => 4 - (intOf i).toNat)
    case atStart => exact ⟨0, _, rfl, by decide, rfl, HX.out⟩
    case round =>
      obtain ⟨k, s, rfl, hk4, rfl, hs⟩ := hrel
      have HS := Lib.hid hs
      have hpl := pre_len a b c d k (by omega) (by omega) (by omega) (by omega)
      have HPL := Lib.hid hpl
      clear hs hpl
      obtain rfl | rfl | rfl | rfl | rfl : k = 0 ∨ k = 1 ∨ k = 2 ∨ k = 3 ∨ k = 4 := by omega
      · go_wp2_with fail
        go_loop [3, 5] (fun o j => NRel (D ++ preL a b c d 0) 69 a o j) (fun _ j => a - (intOf j).toNat)
        case atStart => exact ⟨0, _, rfl, Nat.zero_le _, rfl, by rw [HS.out]; simp⟩
        case round =>
          obtain ⟨n, s, rfl, hn, rfl, hs⟩ := hrel
          have hsz : s.size ≤ 200 := by
            have := HPL.out
            have := HDL.out
            rw [hs, strOf_size]
            simp only [List.length_append, List.length_replicate]
            omega
          have HS2 := Lib.hid hs
          clear hs
          by_cases hlt : n < a
          · have HN := Lib.hid (show s ++ strOf [69] = strOf (D ++ preL a b c d 0 ++ List.replicate (n + 1) 69) by rw [HS2.out, str_more])
            have hx1 : (strOf [69]).size = 1 := rfl
            go_wp2_with fail
            refine (letter0 _).mono ?_
            rintro e w' ⟨rfl, rfl⟩
            go_wp2_with fail
            go_round
            case rel => exact ⟨n + 1, _, by go_num, by omega, rfl, HN.out⟩
            case measure => simp [intOf]; omega
          · have hna : n = a := by omega
            have HN := Lib.hid (show s = strOf (D ++ preL a b c d 1) by rw [HS2.out, hna, pre_up0])
            clear hna
            go_wp2_with fail
            go_round
            case rel => exact ⟨1, _, by go_num, by decide, rfl, HN.out⟩
            case measure => simp [intOf]
      · go_wp2_with fail
        go_loop [3, 5] (fun o j => NRel (D ++ preL a b c d 1) 84 b o j) (fun _ j => b - (intOf j).toNat)
        case atStart => exact ⟨0, _, rfl, Nat.zero_le _, rfl, by rw [HS.out]; simp⟩
        case round =>
          obtain ⟨n, s, rfl, hn, rfl, hs⟩ := hrel
          have hsz : s.size ≤ 200 := by
            have := HPL.out
            have := HDL.out
            rw [hs, strOf_size]
            simp only [List.length_append, List.length_replicate]
            omega
          have HS2 := Lib.hid hs
          clear hs
          by_cases hlt : n < b
          · have HN := Lib.hid (show s ++ strOf [84] = strOf (D ++ preL a b c d 1 ++ List.replicate (n + 1) 84) by rw [HS2.out, str_more])
            have hx1 : (strOf [84]).size = 1 := rfl
            go_wp2_with fail
            refine (letter1 _).mono ?_
            rintro e w' ⟨rfl, rfl⟩
            go_wp2_with fail
            go_round
            case rel => exact ⟨n + 1, _, by go_num, by omega, rfl, HN.out⟩
            case measure => simp [intOf]; omega
          · have hna : n = b := by omega
            have HN := Lib.hid (show s = strOf (D ++ preL a b c d 2) by rw [HS2.out, hna, pre_up1])
            clear hna
            go_wp2_with fail
            go_round
            case rel => exact ⟨2, _, by go_num, by decide, rfl, HN.out⟩
            case measure => simp [intOf]
      · go_wp2_with fail
        go_loop [3, 5] (fun o j => NRel (D ++ preL a b c d 2) 76 c o j) (fun _ j => c - (intOf j).toNat)
        case atStart => exact ⟨0, _, rfl, Nat.zero_le _, rfl, by rw [HS.out]; simp⟩
        case round =>
          obtain ⟨n, s, rfl, hn, rfl, hs⟩ := hrel
          have hsz : s.size ≤ 200 := by
            have := HPL.out
            have := HDL.out
            rw [hs, strOf_size]
            simp only [List.length_append, List.length_replicate]
            omega
          have HS2 := Lib.hid hs
          clear hs
          by_cases hlt : n < c
          · have HN := Lib.hid (show s ++ strOf [76] = strOf (D ++ preL a b c d 2 ++ List.replicate (n + 1) 76) by rw [HS2.out, str_more])
            have hx1 : (strOf [76]).size = 1 := rfl
            go_wp2_with fail
            refine (letter2 _).mono ?_
            rintro e w' ⟨rfl, rfl⟩
            go_wp2_with fail
            go_round
            case rel => exact ⟨n + 1, _, by go_num, by omega, rfl, HN.out⟩
            case measure => simp [intOf]; omega
          · have hna : n = c := by omega
            have HN := Lib.hid (show s = strOf (D ++ preL a b c d 3) by rw [HS2.out, hna, pre_up2])
            clear hna
            go_wp2_with fail
            go_round
            case rel => exact ⟨3, _, by go_num, by decide, rfl, HN.out⟩
            case measure => simp [intOf]
      · go_wp2_with fail
        go_loop [3, 5] (fun o j => NRel (D ++ preL a b c d 3) 83 d o j) (fun _ j => d - (intOf j).toNat)
        case atStart => exact ⟨0, _, rfl, Nat.zero_le _, rfl, by rw [HS.out]; simp⟩
        case round =>
          obtain ⟨n, s, rfl, hn, rfl, hs⟩ := hrel
          have hsz : s.size ≤ 200 := by
            have := HPL.out
            have := HDL.out
            rw [hs, strOf_size]
            simp only [List.length_append, List.length_replicate]
            omega
          have HS2 := Lib.hid hs
          clear hs
          by_cases hlt : n < d
          · have HN := Lib.hid (show s ++ strOf [83] = strOf (D ++ preL a b c d 3 ++ List.replicate (n + 1) 83) by rw [HS2.out, str_more])
            have hx1 : (strOf [83]).size = 1 := rfl
            go_wp2_with fail
            refine (letter3 _).mono ?_
            rintro e w' ⟨rfl, rfl⟩
            go_wp2_with fail
            go_round
            case rel => exact ⟨n + 1, _, by go_num, by omega, rfl, HN.out⟩
            case measure => simp [intOf]; omega
          · have hna : n = d := by omega
            have HN := Lib.hid (show s = strOf (D ++ preL a b c d 4) by rw [HS2.out, hna, pre_up3])
            clear hna
            go_wp2_with fail
            go_round
            case rel => exact ⟨4, _, by go_num, by decide, rfl, HN.out⟩
            case measure => simp [intOf]
      · go_wp2_with fail
        go_ret
        exact ⟨by rw [HS.out, preL_lets, ← HD.out]; rfl, HK1.out⟩
  have hg9 : ¬ (0 : Int) < (g : Nat) := by omega
  by_cases hz : a = 0 ∧ b = 0 ∧ c = 0 ∧ d = 0
  · obtain ⟨D, hD⟩ : ∃ D, digs (a == 0 && b == 0 && c == 0 && d == 0) g = D := ⟨_, rfl⟩
    have HDL := Lib.hid (show D.length ≤ 2 by rw [← hD]; exact (dig_ok _ g (by omega)).len)
    have HD := Lib.hid hD
    clear hD
    have hs0 : ((a : Int) + (b : Nat) + (c : Nat) + (d : Nat) == 0) = true := by simp; omega
    obtain ⟨r, hr⟩ : ∃ r, g % 10 = r := ⟨_, rfl⟩
    have hr' : (g : Int) % 10 = (r : Nat) := by omega
    have hr2 : r < 10 := by omega
    have HH := Lib.hid (show digs (a == 0 && b == 0 && c == 0 && d == 0) g = [UInt8.ofNat (48 + r)] by
      unfold digs
      obtain ⟨rfl, rfl, rfl, rfl⟩ := hz
      obtain rfl : r = 0 := by omega
      rw [if_pos (by omega)]
      rfl)
    clear hz hr
    go_enter Tryd.func29, Tryd.ntmps29
    go_wp2_with fail
    refine (HSM.out _).mono ?_
    rintro e w2 ⟨rfl, hk⟩
    have hb := hk.obj HB.out (not_no _)
    have c0 := obj_cell hb 0
    have c1 := obj_cell hb 1
    have c2 := obj_cell hb 2
    have c3 := obj_cell hb 3
    have c4 := obj_cell hb 4
    have HK2 := Lib.hid (HK1.out.and hk)
    clear hb hk
    go_wp2_with fail
    have HX := Lib.hid (show ({ data := #[] } : ByteArray) ++ ({ data := #[48, 49, 50, 51, 52, 53, 54, 55, 56, 57] } : ByteArray).extract r (r + 1) = strOf (D ++ preL a b c d 0) by rw [dig_slice r hr2, strOf_nil, strOf_app, ← HD.out, HH.out]; rfl)
    go_loop [3, 4] (fun o i => TRel D a b c d o i) (fun _ i => 4 - (intOf i).toNat)
    case atStart => exact ⟨0, _, rfl, by decide, rfl, HX.out⟩
    case round =>
      obtain ⟨k, s, rfl, hk4, rfl, hs⟩ := hrel
      have HS := Lib.hid hs
      have hpl := pre_len a b c d k (by omega) (by omega) (by omega) (by omega)
      have HPL := Lib.hid hpl
      clear hs hpl
      obtain rfl | rfl | rfl | rfl | rfl : k = 0 ∨ k = 1 ∨ k = 2 ∨ k = 3 ∨ k = 4 := by omega
      · go_wp2_with fail
        go_loop [3, 5] (fun o j => NRel (D ++ preL a b c d 0) 69 a o j) (fun _ j => a - (intOf j).toNat)
        case atStart => exact ⟨0, _, rfl, Nat.zero_le _, rfl, by rw [HS.out]; simp⟩
        case round =>
          obtain ⟨n, s, rfl, hn, rfl, hs⟩ := hrel
          have hsz : s.size ≤ 200 := by
            have := HPL.out
            have := HDL.out
            rw [hs, strOf_size]
            simp only [List.length_append, List.length_replicate]
            omega
          have HS2 := Lib.hid hs
          clear hs
          by_cases hlt : n < a
          · have HN := Lib.hid (show s ++ strOf [69] = strOf (D ++ preL a b c d 0 ++ List.replicate (n + 1) 69) by rw [HS2.out, str_more])
            have hx1 : (strOf [69]).size = 1 := rfl
            go_wp2_with fail
            refine (letter0 _).mono ?_
            rintro e w' ⟨rfl, rfl⟩
            go_wp2_with fail
            go_round
            case rel => exact ⟨n + 1, _, by go_num, by omega, rfl, HN.out⟩
            case measure => simp [intOf]; omega
          · have hna : n = a := by omega
            have HN := Lib.hid (show s = strOf (D ++ preL a b c d 1) by rw [HS2.out, hna, pre_up0])
            clear hna
            go_wp2_with fail
            go_round
            case rel => exact ⟨1, _, by go_num, by decide, rfl, HN.out⟩
            case measure => simp [intOf]
      · go_wp2_with fail
        go_loop [3, 5] (fun o j => NRel (D ++ preL a b c d 1) 84 b o j) (fun _ j => b - (intOf j).toNat)
        case atStart => exact ⟨0, _, rfl, Nat.zero_le _, rfl, by rw [HS.out]; simp⟩
        case round =>
          obtain ⟨n, s, rfl, hn, rfl, hs⟩ := hrel
          have hsz : s.size ≤ 200 := by
            have := HPL.out
            have := HDL.out
            rw [hs, strOf_size]
            simp only [List.length_append, List.length_replicate]
            omega
          have HS2 := Lib.hid hs
          clear hs
          by_cases hlt : n < b
          · have HN := Lib.hid (show s ++ strOf [84] = strOf (D ++ preL a b c d 1 ++ List.replicate (n + 1) 84) by rw [HS2.out, str_more])
            have hx1 : (strOf [84]).size = 1 := rfl
            go_wp2_with fail
            refine (letter1 _).mono ?_
            rintro e w' ⟨rfl, rfl⟩
            go_wp2_with fail
            go_round
            case rel => exact ⟨n + 1, _, by go_num, by omega, rfl, HN.out⟩
            case measure => simp [intOf]; omega
          · have hna : n = b := by omega
            have HN := Lib.hid (show s = strOf (D ++ preL a b c d 2) by rw [HS2.out, hna, pre_up1])
            clear hna
            go_wp2_with fail
            go_round
            case rel => exact ⟨2, _, by go_num, by decide, rfl, HN.out⟩
            case measure => simp [intOf]
      · go_wp2_with fail
        go_loop [3, 5] (fun o j => NRel (D ++ preL a b c d 2) 76 c o j) (fun _ j => c - (intOf j).toNat)
        case atStart => exact ⟨0, _, rfl, Nat.zero_le _, rfl, by rw [HS.out]; simp⟩
        case round =>
          obtain ⟨n, s, rfl, hn, rfl, hs⟩ := hrel
          have hsz : s.size ≤ 200 := by
            have := HPL.out
            have := HDL.out
            rw [hs, strOf_size]
            simp only [List.length_append, List.length_replicate]
            omega
          have HS2 := Lib.hid hs
          clear hs
          by_cases hlt : n < c
          · have HN := Lib.hid (show s ++ strOf [76] = strOf (D ++ preL a b c d 2 ++ List.replicate (n + 1) 76) by rw [HS2.out, str_more])
            have hx1 : (strOf [76]).size = 1 := rfl
            go_wp2_with fail
            refine (letter2 _).mono ?_
            rintro e w' ⟨rfl, rfl⟩
            go_wp2_with fail
            go_round
            case rel => exact ⟨n + 1, _, by go_num, by omega, rfl, HN.out⟩
            case measure => simp [intOf]; omega
          · have hna : n = c := by omega
            have HN := Lib.hid (show s = strOf (D ++ preL a b c d 3) by rw [HS2.out, hna, pre_up2])
            clear hna
            go_wp2_with fail
            go_round
            case rel => exact ⟨3, _, by go_num, by decide, rfl, HN.out⟩
            case measure => simp [intOf]
      · go_wp2_with fail
        go_loop [3, 5] (fun o j => NRel (D ++ preL a b c d 3) 83 d o j) (fun _ j => d - (intOf j).toNat)
        case atStart => exact ⟨0, _, rfl, Nat.zero_le _, rfl, by rw [HS.out]; simp⟩
        case round =>
          obtain ⟨n, s, rfl, hn, rfl, hs⟩ := hrel
          have hsz : s.size ≤ 200 := by
            have := HPL.out
            have := HDL.out
            rw [hs, strOf_size]
            simp only [List.length_append, List.length_replicate]
            omega
          have HS2 := Lib.hid hs
          clear hs
          by_cases hlt : n < d
          · have HN := Lib.hid (show s ++ strOf [83] = strOf (D ++ preL a b c d 3 ++ List.replicate (n + 1) 83) by rw [HS2.out, str_more])
            have hx1 : (strOf [83]).size = 1 := rfl
            go_wp2_with fail
            refine (letter3 _).mono ?_
            rintro e w' ⟨rfl, rfl⟩
            go_wp2_with fail
            go_round
            case rel => exact ⟨n + 1, _, by go_num, by omega, rfl, HN.out⟩
            case measure => simp [intOf]; omega
          · have hna : n = d := by omega
            have HN := Lib.hid (show s = strOf (D ++ preL a b c d 4) by rw [HS2.out, hna, pre_up3])
            clear hna
            go_wp2_with fail
            go_round
            case rel => exact ⟨4, _, by go_num, by decide, rfl, HN.out⟩
            case measure => simp [intOf]
      · go_wp2_with fail
        go_ret
        exact ⟨by rw [HS.out, preL_lets, ← HD.out]; rfl, HK2.out⟩
  · obtain ⟨D, hD⟩ : ∃ D, digs (a == 0 && b == 0 && c == 0 && d == 0) g = D := ⟨_, rfl⟩
    have HDL := Lib.hid (show D.length ≤ 2 by rw [← hD]; exact (dig_ok _ g (by omega)).len)
    have HD := Lib.hid hD
    clear hD
    have hs0 : ((a : Int) + (b : Nat) + (c : Nat) + (d : Nat) == 0) = false := by simp; omega
    have HH := Lib.hid (show digs (a == 0 && b == 0 && c == 0 && d == 0) g = [] by
      unfold digs
      rw [if_pos (by omega), if_neg (by simp; omega)])
    clear hz
    go_enter Tryd.func29, Tryd.ntmps29
    go_wp2_with fail
    refine (HSM.out _).mono ?_
    rintro e w2 ⟨rfl, hk⟩
    have hb := hk.obj HB.out (not_no _)
    have c0 := obj_cell hb 0
    have c1 := obj_cell hb 1
    have c2 := obj_cell hb 2
    have c3 := obj_cell hb 3
    have c4 := obj_cell hb 4
    have HK2 := Lib.hid (HK1.out.and hk)
    clear hb hk
    go_wp2_with fail
    have HX := Lib.hid (show ({ data := #[] } : ByteArray) = strOf (D ++ preL a b c d 0) by rw [strOf_nil, ← HD.out, HH.out]; rfl)
    go_loop [3, 4] (fun o i => TRel D a b c d o i) (fun _ i => 4 - (intOf i).toNat)
    case atStart => exact ⟨0, _, rfl, by decide, rfl, HX.out⟩
    case round =>
      obtain ⟨k, s, rfl, hk4, rfl, hs⟩ := hrel
      have HS := Lib.hid hs
      have hpl := pre_len a b c d k (by omega) (by omega) (by omega) (by omega)
      have HPL := Lib.hid hpl
      clear hs hpl
      obtain rfl | rfl | rfl | rfl | rfl : k = 0 ∨ k = 1 ∨ k = 2 ∨ k = 3 ∨ k = 4 := by omega
      · go_wp2_with fail
        go_loop [3, 5] (fun o j => NRel (D ++ preL a b c d 0) 69 a o j) (fun _ j => a - (intOf j).toNat)
        case atStart => exact ⟨0, _, rfl, Nat.zero_le _, rfl, by rw [HS.out]; simp⟩
        case round =>
          obtain ⟨n, s, rfl, hn, rfl, hs⟩ := hrel
          have hsz : s.size ≤ 200 := by
            have := HPL.out
            have := HDL.out
            rw [hs, strOf_size]
            simp only [List.length_append, List.length_replicate]
            omega
          have HS2 := Lib.hid hs
          clear hs
          by_cases hlt : n < a
          · have HN := Lib.hid (show s ++ strOf [69] = strOf (D ++ preL a b c d 0 ++ List.replicate (n + 1) 69) by rw [HS2.out, str_more])
            have hx1 : (strOf [69]).size = 1 := rfl
            go_wp2_with fail
            refine (letter0 _).mono ?_
            rintro e w' ⟨rfl, rfl⟩
            go_wp2_with fail
            go_round
            case rel => exact ⟨n + 1, _, by go_num, by omega, rfl, HN.out⟩
            case measure => simp [intOf]; omega
          · have hna : n = a := by omega
            have HN := Lib.hid (show s = strOf (D ++ preL a b c d 1) by rw [HS2.out, hna, pre_up0])
            clear hna
            go_wp2_with fail
            go_round
            case rel => exact ⟨1, _, by go_num, by decide, rfl, HN.out⟩
            case measure => simp [intOf]
      · go_wp2_with fail
        go_loop [3, 5] (fun o j => NRel (D ++ preL a b c d 1) 84 b o j) (fun _ j => b - (intOf j).toNat)
        case atStart => exact ⟨0, _, rfl, Nat.zero_le _, rfl, by rw [HS.out]; simp⟩
        case round =>
          obtain ⟨n, s, rfl, hn, rfl, hs⟩ := hrel
          have hsz : s.size ≤ 200 := by
            have := HPL.out
            have := HDL.out
            rw [hs, strOf_size]
            simp only [List.length_append, List.length_replicate]
            omega
          have HS2 := Lib.hid hs
          clear hs
          by_cases hlt : n < b
          · have HN := Lib.hid (show s ++ strOf [84] = strOf (D ++ preL a b c d 1 ++ List.replicate (n + 1) 84) by rw [HS2.out, str_more])
            have hx1 : (strOf [84]).size = 1 := rfl
            go_wp2_with fail
            refine (letter1 _).mono ?_
            rintro e w' ⟨rfl, rfl⟩
            go_wp2_with fail
            go_round
            case rel => exact ⟨n + 1, _, by go_num, by omega, rfl, HN.out⟩
            case measure => simp [intOf]; omega
          · have hna : n = b := by omega
            have HN := Lib.hid (show s = strOf (D ++ preL a b c d 2) by rw [HS2.out, hna, pre_up1])
            clear hna
            go_wp2_with fail
            go_round
            case rel => exact ⟨2, _, by go_num, by decide, rfl, HN.out⟩
            case measure => simp [intOf]
      · go_wp2_with fail
        go_loop [3, 5] (fun o j => NRel (D ++ preL a b c d 2) 76 c o j) (fun _ j => c - (intOf j).toNat)
        case atStart => exact ⟨0, _, rfl, Nat.zero_le _, rfl, by rw [HS.out]; simp⟩
        case round =>
          obtain ⟨n, s, rfl, hn, rfl, hs⟩ := hrel
          have hsz : s.size ≤ 200 := by
            have := HPL.out
            have := HDL.out
            rw [hs, strOf_size]
            simp only [List.length_append, List.length_replicate]
            omega
          have HS2 := Lib.hid hs
          clear hs
          by_cases hlt : n < c
          · have HN := Lib.hid (show s ++ strOf [76] = strOf (D ++ preL a b c d 2 ++ List.replicate (n + 1) 76) by rw [HS2.out, str_more])
            have hx1 : (strOf [76]).size = 1 := rfl
            go_wp2_with fail
            refine (letter2 _).mono ?_
            rintro e w' ⟨rfl, rfl⟩
            go_wp2_with fail
            go_round
            case rel => exact ⟨n + 1, _, by go_num, by omega, rfl, HN.out⟩
            case measure => simp [intOf]; omega
          · have hna : n = c := by omega
            have HN := Lib.hid (show s = strOf (D ++ preL a b c d 3) by rw [HS2.out, hna, pre_up2])
            clear hna
            go_wp2_with fail
            go_round
            case rel => exact ⟨3, _, by go_num, by decide, rfl, HN.out⟩
            case measure => simp [intOf]
      · go_wp2_with fail
        go_loop [3, 5] (fun o j => NRel (D ++ preL a b c d 3) 83 d o j) (fun _ j => d - (intOf j).toNat)
        case atStart => exact ⟨0, _, rfl, Nat.zero_le _, rfl, by rw [HS.out]; simp⟩
        case round =>
          obtain ⟨n, s, rfl, hn, rfl, hs⟩ := hrel
          have hsz : s.size ≤ 200 := by
            have := HPL.out
            have := HDL.out
            rw [hs, strOf_size]
            simp only [List.length_append, List.length_replicate]
            omega
          have HS2 := Lib.hid hs
          clear hs
          by_cases hlt : n < d
          · have HN := Lib.hid (show s ++ strOf [83] = strOf (D ++ preL a b c d 3 ++ List.replicate (n + 1) 83) by rw [HS2.out, str_more])
            have hx1 : (strOf [83]).size = 1 := rfl
            go_wp2_with fail
            refine (letter3 _).mono ?_
            rintro e w' ⟨rfl, rfl⟩
            go_wp2_with fail
            go_round
            case rel => exact ⟨n + 1, _, by go_num, by omega, rfl, HN.out⟩
            case measure => simp [intOf]; omega
          · have hna : n = d := by omega
            have HN := Lib.hid (show s = strOf (D ++ preL a b c d 4) by rw [HS2.out, hna, pre_up3])
            clear hna
            go_wp2_with fail
            go_round
            case rel => exact ⟨4, _, by go_num, by decide, rfl, HN.out⟩
            case measure => simp [intOf]
      · go_wp2_with fail
        go_ret
        exact ⟨by rw [HS.out, preL_lets, ← HD.out]; rfl, HK2.out⟩
end Go.Proofs.YtogfjegedfaekaaDoor
