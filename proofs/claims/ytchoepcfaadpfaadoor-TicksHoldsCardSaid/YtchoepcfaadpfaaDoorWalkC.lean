/-
  Ticks: Text of the program and of the reference.
-/
import Derived.Test.YtchoepcfaadpfaaDoorWalkB
namespace Go.Proofs.YtchoepcfaadpfaaDoor
open Go.RowKit Go.Zn Go.Sort Go.Lib

def bs (l : List UInt8) : ByteArray := ⟨l.toArray⟩
theorem bs_app (l r : List UInt8) : bs l ++ bs r = bs (l ++ r) := by
  apply ByteArray.ext
  simp [bs]
theorem bs_size (l : List UInt8) : (bs l).size = l.length := by simp [bs, ByteArray.size]
theorem dec_size {u : Nat} (h : u ≤ 18446744073709551615) : (bs (decDigits u)).size ≤ 20 := by
  rw [bs_size, decDigits_length]
  exact nDigits_le20 u (by omega)
theorem digit_piece : ∀ u : Fin 10, (ByteArray.mk #[48, 49, 50, 51, 52, 53, 54, 55, 56, 57]).extract u.1 (u.1 + 1) = bs [UInt8.ofNat (48 + u.1)] := by decide +kernel
theorem fmt_int (a : Int) (u : Nat) (ha : a = u) (hu : u < 18446744073709551616) (w : World) (hl : Laid w) :
    Calls Tryd.prog 25 #[.int .u64 a, .int .i64 10] w fun e w' => e = .returned (.string (bs (decDigits u))) ∧ Kept No w w' := by
  subst ha
  exact fmt_pub u hu w hl
set_option maxHeartbeats 400000 in
theorem text_any (a : Int) (u : Nat) (ha : a = u) (hu : u ≤ 18446744073709551615) (w : World) (hl : Laid w) :
    Calls Tryd.prog 19 #[.int .u64 a] w fun e w' => e = .returned (.string (bs (txt u))) ∧ Kept No w w' := by
  have HA := Lib.hid ha
  have HL := Lib.hid hl
  have HU := Lib.hid hu
  by_cases h : a = 18446744073709551615
  · have hx : u = 18446744073709551615 := by omega
    have e : txt u = neverT := by rw [hx]; exact txt_never
    have E := Lib.hid e
    have d : (a == 18446744073709551615) = true := by simp; exact h
    clear e h hx ha hl hu
    go_enter Tryd.func19, Tryd.ntmps19
    go_wp2_with fail
    go_ret
    exact ⟨by rw [E.out]; rfl, Kept.refl _ _⟩
  · have hx : u ≠ 18446744073709551615 := by omega
    have e : txt u = decDigits u ++ [116] := txt_num hx
    have E := Lib.hid e
    have d : (a == 18446744073709551615) = false := by simp; exact h
    have hz := dec_size hu
    clear e h hx ha hl hu
    go_enter Tryd.func19, Tryd.ntmps19
    go_wp2_with (go_at_call 25; refine (fmt_int a u HA.out (by have := HU.out; omega) _ HL.out).mono ?_; rintro e w' ⟨rfl, hk⟩)
    go_ret
    exact ⟨by rw [E.out, ← bs_app]; rfl, hk⟩

set_option maxHeartbeats 400000 in
theorem digits_any (k : Nat) : ∀ (a : Int) (u : Nat) (w : World), a = u → u ≤ k → u ≤ 18446744073709551615 →
    Calls Tryd.prog 26 #[.int .u64 a] w fun e w' => e = .returned (.string (bs (decDigits u))) ∧ w = w' := by
  induction k using Nat.strongRecOn with
  | ind k ih =>
    intro a u w ha hk hu
    by_cases h : u < 10
    · have h0 : 0 ≤ a := by omega
      have h9 : a < 10 := by omega
      have HA := Lib.hid ha
      have E := Lib.hid (dec_small h)
      clear ha hk hu h ih
      go_enter Tryd.func26, Tryd.ntmps26
      go_wp2_with fail
      go_ret
      have e3 : a.toNat = u := by have := HA.out; omega
      have e4 : (a + 1).toNat = u + 1 := by have := HA.out; omega
      refine ⟨?_, rfl⟩
      rw [E.out, ← digit_piece ⟨u, by have := HA.out; omega⟩]
      show Ending.returned (Value.string (ByteArray.extract _ a.toNat (a + 1).toNat)) = _
      rw [e3, e4]
    · have h0 : 0 ≤ a := by omega
      have h9 : ¬ a < 10 := by omega
      have hm : a ≤ 18446744073709551615 := by omega
      have e1 : a / 10 = ((u / 10 : Nat) : Int) := by omega
      have e2 : a % 10 = ((u % 10 : Nat) : Int) := by omega
      have E1 := Lib.hid e1
      have E2 := Lib.hid e2
      have E := Lib.hid (dec_big h)
      have F := Lib.hid (dec_small (show u % 10 < 10 by omega))
      have hz1 := dec_size (show u / 10 ≤ 18446744073709551615 by omega)
      have hz2 := dec_size (show u % 10 ≤ 18446744073709551615 by omega)
      have IH1 := Lib.hid (fun w => ih (u / 10) (by omega) (a / 10) (u / 10) w e1 (Nat.le_refl _) (by omega))
      have IH2 := Lib.hid (fun w => ih (u % 10) (by omega) (a % 10) (u % 10) w e2 (Nat.le_refl _) (by omega))
      clear ha hk hu h ih e1 e2
      go_enter Tryd.func26, Tryd.ntmps26
      go_wp2_with fail
      refine (IH1.out _).mono ?_
      rintro e w' ⟨rfl, rfl⟩
      go_wp2_with fail
      refine (IH2.out _).mono ?_
      rintro e w' ⟨rfl, rfl⟩
      go_wp2_with fail
      go_ret
      refine ⟨?_, rfl⟩
      rw [E.out, ← bs_app, ← F.out]
      rfl
set_option maxHeartbeats 400000 in
theorem rtext_any (a : Int) (u : Nat) (ha : a = u) (hu : u ≤ 18446744073709551615) (w : World) :
    Calls Tryd.prog 20 #[.int .u64 a] w fun e w' => e = .returned (.string (bs (txt u))) ∧ w = w' := by
  have HA := Lib.hid ha
  have HU := Lib.hid hu
  by_cases h : a = 18446744073709551615
  · have hx : u = 18446744073709551615 := by omega
    have e : txt u = neverT := by rw [hx]; exact txt_never
    have E := Lib.hid e
    have d : (a == 18446744073709551615) = true := by simp; exact h
    clear e h hx ha hu
    go_enter Tryd.func20, Tryd.ntmps20
    go_wp2_with fail
    go_ret
    exact ⟨by rw [E.out]; rfl, rfl⟩
  · have hx : u ≠ 18446744073709551615 := by omega
    have e : txt u = decDigits u ++ [116] := txt_num hx
    have E := Lib.hid e
    have d : (a == 18446744073709551615) = false := by simp; exact h
    have hz := dec_size hu
    clear e h hx ha hu
    go_enter Tryd.func20, Tryd.ntmps20
    go_wp2_with (go_at_call 26; refine (digits_any u a u _ HA.out (Nat.le_refl _) HU.out).mono ?_; rintro e w' ⟨rfl, rfl⟩)
    go_ret
    exact ⟨by rw [E.out, ← bs_app]; rfl, rfl⟩
theorem parseUint_no (s : ByteArray) (hs : ∀ u, parseUintB 64 s.data.toList ≠ .ok u) (hlim : s.size ≤ 1000) (w : World) (hl : Laid w) :
    Calls Tryd.prog 27 #[.string s, .int .i64 10, .int .i64 64] w fun e w' => ∃ v N, e = .returned (.tuple #[.int .u64 v, .iface 61 (.pointer (some ⟨N, 0, none⟩))]) ∧ Kept No w w' := by
  obtain ⟨tp, p, h1⟩ := hl.syn
  obtain ⟨tp2, p2, h2⟩ := hl.rng
  cases hp : parseUintB 64 s.data.toList
  · exact absurd hp (hs _)
  · refine (Any.strconv_ParseUint_10_at64_syntax_var Tryd.laysPu14 s (by omega) hp tp p w h1).mono ?_
    rintro e w' ⟨N, he, _, _, hk⟩
    exact ⟨_, N, he, Kept.of_below hk⟩
  · refine (Any.strconv_ParseUint_10_at64_range_var Tryd.laysPu14 s (by omega) hp tp2 p2 w h2).mono ?_
    rintro e w' ⟨N, he, _, _, hk⟩
    exact ⟨_, N, he, Kept.of_below hk⟩
theorem kept_bytesWorld (w : World) (s : ByteArray) : Kept No w (Lib.bytesWorld w 5 s) := ⟨rfl, rfl, rfl, by rw [Lib.bytesWorld_size]; omega, fun k hk _ => Lib.bytesWorld_at_old w 5 s k hk⟩
theorem parseUint_yes (s : ByteArray) (u : Nat) (h : parseUintB 64 s.data.toList = .ok u) (hlim : s.size ≤ 1000) (w : World) :
    Calls Tryd.prog 27 #[.string s, .int .i64 10, .int .i64 64] w fun e w' => ∃ a : Int, a = u ∧ e = .returned (.tuple #[.int .u64 a, .nilIface]) ∧ Kept No w w' := by
  refine (Tryd.strconv_ParseUint_10_at64_ok s (by omega) u h w).mono ?_
  rintro e w' ⟨he, rfl | rfl⟩
  · exact ⟨_, rfl, he, Kept.refl _ _⟩
  · exact ⟨_, rfl, he, kept_bytesWorld w s⟩
end Go.Proofs.YtchoepcfaadpfaaDoor
